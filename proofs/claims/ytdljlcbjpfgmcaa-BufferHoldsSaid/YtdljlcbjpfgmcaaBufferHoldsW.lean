/- The walk of the law 'BufferHolds': it returns true. Conditions: the arguments read as a list of numbers and a list of bytes. -/
import Derived.Test.YtdljlcbjpfgmcaaBufferHoldsP
import Derived.Test.YtdljlcbjpfgmcaaTail
namespace Go.Proofs.Ytdljlcbjpfgmcaa
open Go.RowKit Go.Maps

def places (c k : Nat) : List Int := (List.range k).map fun i => ((i * c : Nat) : Int)
theorem places_len (c k : Nat) : (places c k).length = k := by simp [places]
theorem places_snoc (c k : Nat) : places c (k + 1) = places c k ++ [((k * c : Nat) : Int)] := by simp [places, List.range_succ]
theorem places_get {c k j : Nat} (h : j < k) : ((places c k).map (Value.int .i64))[j]? = some (.int .i64 ((j * c : Nat) : Int)) := by
  simp [places, h]
theorem info_int3 : (Try.prog.info? 3).map (fun i => (i.zero, i.size, i.bytes)) = some (some (.int .i64 0), 1, 8) := by kernel_rfl

/-- What holds at the loops' heads: the places, the buffer. -/
structure HoldInv (w wr : World) (p m : Nat) (r : Value) (ps : List Int) (g : Option Nat) (s : Bf) : Prop where
  own : wr.ownsRow w.heap.size 3 1 r ps.length (ps.map (Value.int .i64))
  buf : Buf w.heap.size wr p m g s
  apart : Apart r wr p m g
  below : Below w.heap.size w wr

theorem HoldInv.later {w wr w' : World} {p m : Nat} {r : Value} {ps : List Int} {g : Option Nat} {s : Bf} (h : HoldInv w wr p m r ps g s) (hb : Below wr.heap.size wr w') : HoldInv w w' p m r ps g s :=
  ⟨own_below h.own hb, h.buf.below hb, h.apart.later hb.size, h.below.trans (hb.mono h.below.size)⟩
theorem HoldInv.did {w wr w' : World} {p m : Nat} {r : Value} {ps : List Int} {g g' : Option Nat} {s s' : Bf} (h : HoldInv w wr p m r ps g s) (hb : Buf w.heap.size w' p m g' s') (ht : Turn wr w' (foot p m g)) (hg : ∀ k, g' = some k → g = some k ∨ wr.heap.size ≤ k) : HoldInv w w' p m r ps g' s' :=
  ⟨ht.own h.own h.apart.not, hb, h.apart.step ht.size hg, ht.below h.below h.below.size h.buf.from⟩
theorem HoldInv.drew {w wr : World} {p m : Nat} {r : Value} {ps : List Int} {g : Option Nat} {s : Bf} (h : HoldInv w wr p m r ps g s) (q : Nat) : HoldInv w (wr.drewN q) p m r ps g s :=
  ⟨h.own, h.buf, h.apart, below_drewN h.below q⟩
theorem HoldInv.more {w wr w' : World} {p m : Nat} {r v : Value} {ps : List Int} {x : Int} {g : Option Nat} {s : Bf} (h : HoldInv w wr p m r ps g s) (ho : w'.ownsRow w.heap.size 3 1 v (ps.length + 1) (ps.map (Value.int .i64) ++ [.int .i64 x])) (hgr : wr.grownBy w' r.ownBlock) (hv : v.ownBlock = r.ownBlock ∨ ∃ k, v.ownBlock = some k ∧ wr.heap.size ≤ k) : HoldInv w w' p m v (ps ++ [x]) g s := by
  refine ⟨by rw [List.length_append, List.map_append]; exact ho, h.buf.turn (S := fun k => r.ownBlock = some k) (Turn.of_grown hgr (fun k e _ => e)) (fun k f e => h.apart.not k e f), fun k e => ⟨fun f => ?_, (ho.lt k e).2⟩, h.below.grown hgr h.below.size (fun k e => (h.own.lt k e).1)⟩
  rcases hv with hv | ⟨k', hv, hk'⟩
  · exact h.apart.not k (by rw [← hv]; exact e) f
  · rw [hv] at e
    injection e with e
    have := h.buf.flt k f
    omega

theorem bytes_same7 {va vb : Value} {l : List Int} {w : World} (h1 : Ints .u8 w va l) (h2 : Ints .u8 w vb l) : Calls Try.prog 25 #[va, vb] w fun e w' => e = .returned (.bool true) ∧ Below w.heap.size w w' := by
  have := ref_bytes va vb l l w h1 h2
  rw [show decide (l = l) = true from decide_eq_true rfl] at this
  exact this
theorem stH_len {btw ys : List Int} {D : DataW Unit} {k : Nat} : (stH btw ys D k).bs.length = ys.length * (8 + btw.length) := bsOf_len btw ys
theorem stH_done1 {btw ys : List Int} {D : DataW Unit} {k : Nat} (h : 0 < Maps.size D) : (stH btw ys D k).done = ([], 10001) := by
  rw [Bf.done, if_neg (by show ¬ (0 : Int) ≠ 0; decide), if_pos (show 0 < Maps.size (stH btw ys D k).held from h)]
theorem stH_done0 {btw ys : List Int} {D : DataW Unit} {k : Nat} (h : Maps.size D = 0) : (stH btw ys D k).done = (bsOf btw ys, 0) := by
  rw [Bf.done, if_neg (by show ¬ (0 : Int) ≠ 0; decide), if_neg (by show ¬ 0 < Maps.size D; omega)]
  rfl
theorem rep_step {ns : List Int} {j : Nat} (h : j < ns.length) : List.replicate j 0 ++ ns.getD j 0 :: ns.drop (j + 1) = List.replicate j 0 ++ ns.drop j := by rw [drop_cons h]
theorem mul_cast (k l : Nat) : (k : Int) * (8 + (l : Int)) = ((k * (8 + l) : Nat) : Int) := by simp

set_option maxRecDepth 100000 in
set_option maxHeartbeats 4000000 in
theorem walk_BufferHolds (v1 : Value) (ns : List Int) (v2 : Value) (btw : List Int) (w : World) (h1 : Ints .u64 w v1 ns) (h2 : Ints .u8 w v2 btw) :
    Calls Try.prog 13 #[v1, v2] w fun e w' => e = .returned (.bool true) ∧ Below w.heap.size w w' := by
  have hle1 := h1.le
  have hle2 := h2.le
  have hU := h1.u64
  have HU := Lib.hid hU
  have H2 := Lib.hid h2
  obtain ⟨a1, cap1, b1, off1, rfl, -, -, -, ha1, hc1⟩ := h1.open
  obtain ⟨a2, cap2, b2, off2, rfl, -⟩ := h2.open
  have A1 := Lib.hid ha1
  have C1 := Lib.hid hc1
  clear h1 h2 ha1 hc1 hU
  by_cases g1 : 20 < ns.length
  · go_enter Try.func13, Try.ntmps13
    go_wp2_with (go_at_call 47; (with_reducible refine (sure03 _).mono ?_); rintro e w' ⟨rfl, hb⟩)
    go_ret
    exact ⟨rfl, hb⟩
  by_cases g2 : 100 < btw.length
  · go_enter Try.func13, Try.ntmps13
    go_wp2_with (go_at_call 47; (with_reducible refine (sure03 _).mono ?_); rintro e w' ⟨rfl, hb⟩)
    go_ret
    exact ⟨rfl, hb⟩
  have hN : ns.length ≤ 20 := by omega
  have hL : btw.length ≤ 100 := by omega
  have HNw : Hid (Calls Try.prog 48 #[.int .i64 100000] w _) := buf_new (n := 100000) (by decide) w
  go_enter Try.func13, Try.ntmps13
  go_wp2_with fail
  (with_reducible refine HNw.out.mono ?_)
  rintro e w1 ⟨p, m, rfl, hbu, hb⟩
  have HI1 : Hid (HoldInv w w1 p m (.slice none 0 0) (places (8 + btw.length) 0) none (stH btw (List.replicate 0 0) (.map []) 0)) := ⟨World.ownsRow_nil _ _ _ _, hbu, (fun k e => by cases e), hb⟩
  clear hbu hb
  go_wp2_with fail
  go_loopw [6, 7] (fun r i wr => ∃ (k : Nat) (D : DataW Unit) (g : Option Nat), k ≤ ns.length ∧ i = .int .i64 k ∧ Hid (HeldI (8 + btw.length) k D) ∧ Hid (HoldInv w wr p m r (places (8 + btw.length) k) g (stH btw (List.replicate k 0) D k))) (fun _ i _ => ns.length - (intOf i).toNat)
  case atStart => exact ⟨0, .map [], none, by omega, rfl, HeldI.start _, HI1.out⟩
  case round =>
    obtain ⟨k, D, g, hk, rfl, HD, HI⟩ := hrel
    have hown := HI.out.own
    rw [places_len] at hown
    have HO := Lib.hid hown
    obtain ⟨ar, capr, rfl⟩ := own_slice hown
    clear hown
    by_cases hlt : k < ns.length
    · have hkc : k * (8 + btw.length) ≤ 20 * 108 := Nat.mul_le_mul (by omega) (by omega)
      obtain ⟨q, hq⟩ : ∃ q, q = k * (8 + btw.length) := ⟨_, rfl⟩
      have HQ := Lib.hid hq
      have HH : Calls Try.prog 52 #[.pointer (some ⟨p, 0, none⟩), .int .i64 8] _ _ := buf_hold HI.out.buf (x := 8) (by decide) rfl (by rw [stH_len, List.length_replicate]; show _ ≤ 100000; omega) (by show k < 1000000; omega)
      rw [stH_hold, stH_len, List.length_replicate, ← hq] at HH
      have HH := Lib.hid HH
      have HD' := Lib.hid (HD.out.put (show 0 < 8 + btw.length by omega))
      rw [← hq] at hkc
      clear hq
      go_wp2_with fail
      (with_reducible refine HH.out.mono ?_)
      rintro e w2 ⟨rfl, g2, hbu, ht, hg⟩
      have HI2 := Lib.hid (HI.out.did hbu ht hg)
      have HO2 : Hid (w2.ownsRow w.heap.size 3 1 (.slice ar k capr) k ((places (8 + btw.length) k).map (Value.int .i64))) := by have := HI2.out.own; rw [places_len] at this; exact this
      clear hbu ht hg
      go_wp2_with (at_builtin; refine wpList_append_sl rfl (.tmp 33) (.tmp 36) _ rfl w.heap.size 3 (.int .i64 0) 1 8 Try.underlying22 info_int3 rfl (by decide) (.slice ar k capr) k _ rfl (HO2.out.alloc _) (.slice (some ⟨w2.heap.size, 0, none⟩) 1 1) 1 [.int .i64 (q : Int)] rfl rfl (Ints.lit .i64 w2 3 [(q : Int)] _ rfl (by simp) (by intro z hz; simp at hz; subst hz; exact wf_i64 (by omega) (by omega))).1 (ints_one .i64 [(q : Int)]) (by unfold maxLen; omega) (by omega) (by have := HI2.out.below.size; simp; omega) ?_; intro v4 w4 hown4 hgrow4 hv4; have HI4 : Hid (HoldInv w w4 p m v4 (places (8 + btw.length) k ++ [(q : Int)]) g2 _) := ((HI2.out.later (below_alloc2 _)).more (by rw [places_len]; exact hown4) hgrow4 (hv4.imp id (fun e => ⟨_, e, Nat.le_refl _⟩))); rw [HQ.out, ← places_snoc] at HI4; obtain ⟨a4, cap4, rfl⟩ := own_slice hown4; have HY := buf_bytes HI4.out.buf (H2.out.below HI4.out.below); rw [stH_bytes (by have := HQ.out; omega)] at HY; have HY := Lib.hid HY; clear hown4 hgrow4 hv4)
      (with_reducible refine HY.out.mono ?_)
      rintro e w5 ⟨rfl, g5, hbu, ht, hg⟩
      have HI5 := Lib.hid (HI4.out.did hbu ht hg)
      clear hbu ht hg
      go_wp2_with fail
      go_roundw
      case rel => exact ⟨k + 1, _, g5, by omega, by go_num, HD'.out, HI5.out⟩
      case measure => simp [intOf]; omega
    · obtain rfl : k = ns.length := by omega
      have HI : Hid (HoldInv w wr p m (.slice ar ns.length capr) (places (8 + btw.length) ns.length) g (stH btw (List.replicate ns.length 0 ++ ns.drop ns.length) D ns.length)) := by rw [List.drop_length, List.append_nil]; exact HI.out
      go_wp2_with fail
      go_loopw [8] (fun i wx => ∃ (k : Nat) (D : DataW Unit) (g : Option Nat), k ≤ ns.length ∧ i = .int .i64 ((k : Int) - 1) ∧ Hid (HeldI (8 + btw.length) k D) ∧ Hid (HoldInv w wx p m (.slice ar ns.length capr) (places (8 + btw.length) ns.length) g (stH btw (List.replicate k 0 ++ ns.drop k) D ns.length))) (fun i _ => (intOf i + 1).toNat)
      case atStart => exact ⟨ns.length, D, g, by omega, rfl, HD.out, HI.out⟩
      case round =>
        obtain ⟨k, D, g, hk, rfl, HD, HI⟩ := hrel
        cases k with
        | succ j =>
          rw [show (((j + 1 : Nat) : Int) - 1) = (j : Int) by omega]
          have hj : j < ns.length := by omega
          have HDo := buf_done HI.out.buf
          rw [stH_done1 (by rw [HD.out.2.1]; omega)] at HDo
          have HDo := Lib.hid HDo
          obtain rfl := A1.out (by omega)
          obtain ⟨ga, rfl⟩ : ∃ ga, ar = some ⟨ga, 0, none⟩ := by
            obtain ⟨hl, ⟨h, h0⟩ | ⟨gx, capq, cur, hv, -⟩⟩ := HI.out.own
            · rw [places_len] at h0; omega
            · injection hv with e1 e2 e3
              exact ⟨gx, e1⟩
          go_wp2_with fail
          (with_reducible refine HDo.out.mono ?_)
          rintro e w2 ⟨v5, rfl, ho, hb⟩
          obtain ⟨a5, c5, rfl⟩ := own_slice ho
          have HI2 := Lib.hid (HI.out.later hb)
          have hown := HI2.out.own
          rw [places_len] at hown
          obtain ⟨q, hq⟩ : ∃ q, q = j * (8 + btw.length) := ⟨_, rfl⟩
          have d0 : w2.cell? ⟨ga, j, none⟩ = some (.int .i64 (q : Int)) := by rw [hq]; exact (hown.cellAt j (by omega)).trans (places_get hj)
          have d1 : w2.cell? ⟨b1, off1 + j, none⟩ = some (.int .u64 (ns.getD j 0)) := (HI2.out.below.cell (p := ⟨b1, off1 + j, none⟩) (World.block_lt_of_cell? _ _ (C1.out j hj))).trans (C1.out j hj)
          have hn := HU.out _ (getD_mem hj)
          have hq8 : q + (8 + btw.length) ≤ ns.length * (8 + btw.length) := by
            have := Nat.mul_le_mul_right (8 + btw.length) (show j + 1 ≤ ns.length by omega)
            rw [Nat.add_mul, Nat.one_mul, ← hq] at this
            exact this
          have hst : stH btw (List.replicate (j + 1) 0 ++ ns.drop (j + 1)) D ns.length = stH btw (List.replicate j 0 ++ 0 :: ns.drop (j + 1)) D ns.length := by rw [List.replicate_succ', List.append_assoc]; rfl
          have HI3 : HoldInv w w2 p m (.slice (some ⟨ga, 0, none⟩) ns.length capr) (places (8 + btw.length) ns.length) g (stH btw (List.replicate j 0 ++ 0 :: ns.drop (j + 1)) D ns.length) := by rw [← hst]; exact HI2.out
          have HF : Calls Try.prog 53 #[.pointer (some ⟨p, 0, none⟩), .int .i64 (q : Int), .int .u64 (ns.getD j 0)] (w2.drewN 1) _ :=
            buf_fill (HI3.buf.drew 1) (at_ := q) (x := 8) (n := ns.getD j 0) rfl (by rw [hq]; exact HD.out.2.2.2 j (by omega) _) ((HD.out.2.2.1 _).2 ⟨j, by omega, by rw [hq]⟩) (by decide) (by rw [stH_len]; simp; rw [show j + (ns.length - (j + 1) + 1) = ns.length by omega]; omega) hn (by simp [fitsW])
          have hfl := stH_fill (btw := btw) (A := List.replicate j 0) (B := ns.drop (j + 1)) (D := D) (j := ns.length) (ns.getD j 0)
          rw [List.length_replicate, ← hq, rep_step hj] at hfl
          rw [hfl] at HF
          have HF := Lib.hid HF
          have HIn := Lib.hid (HI3.drew 1)
          have HD2 : Hid (HeldI (8 + btw.length) j (D.del (keyI (q : Int)))) := by rw [hq]; exact HD.out.del (by omega)
          generalize ns.getD j 0 = nv at d1 HF hn
          clear ho hb hown hst hfl HI3 hq8 hn hq
          go_wp2_with fail
          go_still_tail 9, (by kernel_rfl)
          go_wp2_with fail
          refine HF.out.mono ?_
          rintro e w5 ⟨rfl, g5, hbu, ht, hg⟩
          have HI5 := Lib.hid (HIn.out.did hbu ht hg)
          clear hbu ht hg
          go_wp2_with fail
          go_roundw
          case rel => exact ⟨j, _, g5, by omega, by go_num, HD2.out, HI5.out⟩
          case measure => simp [intOf]
        | zero =>
          rw [show (((0 : Nat) : Int) - 1) = (-1 : Int) by omega]
          have HI0 := HI.out
          rw [show List.replicate 0 0 ++ ns.drop 0 = ns from rfl] at HI0
          have HDo := buf_done HI0.buf
          rw [stH_done0 HD.out.2.1] at HDo
          have HDo := Lib.hid HDo
          have HBel := Lib.hid HI0.below
          clear HI0
          go_wp2_with fail
          (with_reducible refine HDo.out.mono ?_)
          rintro e w2 ⟨v5, rfl, ho, hb⟩
          obtain ⟨q2, hq2⟩ : ∃ q2, q2 = ns.length * (8 + btw.length) := ⟨_, rfl⟩
          have hXl : (bsOf btw ns).length = q2 := by rw [bsOf_len, hq2]
          rw [hXl] at ho
          have HX2 := Lib.hid (Ints.of_own (zs := bsOf btw ns) ho (bsOf_u8 H2.out.u8 ns).wf)
          obtain ⟨a5, c5, rfl⟩ := own_slice ho
          have HB2 := Lib.hid (HBel.out.trans (hb.mono HBel.out.size))
          have hm2 : (ns.length : Int) * (8 + (btw.length : Int)) = (q2 : Int) := by rw [hq2]; exact mul_cast _ _
          have hq2b : q2 ≤ 20 * 108 := by rw [hq2]; exact Nat.mul_le_mul (by omega) (by omega)
          have HQ2 := Lib.hid hq2
          have HXl := Lib.hid hXl
          clear ho hb hq2 hXl
          go_wp2_with fail
          go_loopw [13] (fun i wx => ∃ k : Nat, k ≤ ns.length ∧ i = .int .i64 k ∧ Hid (Below w.heap.size w wx) ∧ Hid (Ints .u8 wx (.slice a5 q2 c5) (bsOf btw ns))) (fun i _ => ns.length - (intOf i).toNat)
          case atStart => exact ⟨0, by omega, rfl, HB2.out, HX2.out⟩
          case round =>
            obtain ⟨k, hk, rfl, HBw, HX⟩ := hrel
            rename World => wx
            by_cases hlt : k < ns.length
            · obtain rfl := A1.out (by omega)
              obtain ⟨qk, hqk⟩ : ∃ qk, qk = k * (8 + btw.length) := ⟨_, rfl⟩
              have hmk : (k : Int) * (8 + (btw.length : Int)) = (qk : Int) := by rw [hqk]; exact mul_cast _ _
              have hq8 : qk + (8 + btw.length) ≤ q2 := by
                have := Nat.mul_le_mul_right (8 + btw.length) (show k + 1 ≤ ns.length by omega)
                rw [Nat.add_mul, Nat.one_mul, ← hqk, ← HQ2.out] at this
                exact this
              have hXX : Ints .u8 wx (.slice a5 (bsOf btw ns).length c5) (bsOf btw ns) := by rw [HXl.out]; exact HX.out
              obtain ⟨A, hsl, hcut⟩ := slice_from Try.underlying28 info_u8 hXX (qk : Int) qk rfl (by rw [HXl.out]; omega)
              have hyl : ((bsOf btw ns).drop qk).length = q2 - qk := by rw [List.length_drop, HXl.out]
              rw [HXl.out] at hsl hcut
              have hys : (bsOf btw ns).drop qk = be 8 (ns.getD k 0) ++ btw ++ bsOf btw (ns.drop (k + 1)) := by rw [hqk]; exact bsOf_at hlt
              rw [← hyl] at hcut
              obtain ⟨A8, hsl8, hcut8⟩ := slice_upto Try.underlying28 info_u8 hcut (8 : Int) 8 rfl (by omega)
              obtain ⟨A9, hsl9, hcut9⟩ := slice_lohi Try.underlying28 info_u8 hcut (8 : Int) (8 + (btw.length : Int)) 8 (8 + btw.length) rfl (by simp) (by omega) (by omega)
              rw [hyl] at hsl8 hsl9
              have h8 : (be 8 (ns.getD k 0)).length = 8 := be_length 8 _
              rw [hys, List.append_assoc, List.take_left' h8] at hcut8
              rw [hys, List.take_left' (by rw [List.length_append, h8]), List.drop_left' h8] at hcut9
              rw [show 8 + btw.length - 8 = btw.length by omega] at hsl9 hcut9
              have hn := HU.out _ (getD_mem hlt)
              have d1 := (HBw.out.cell (p := ⟨b1, off1 + k, none⟩) (World.block_lt_of_cell? _ _ (C1.out k hlt))).trans (C1.out k hlt)
              have HV : ∀ q, Calls Try.prog 54 #[.slice A8 8 (c5 - qk)] (wx.drewN q) fun e w' => e = .returned (.int .u64 (ns.getD k 0)) ∧ wx.drewN q = w' := fun q => by
                have := ref_value _ _ _ (hcut8.below (below_drewN (Below.refl _ _) q)) (by rw [h8]; decide)
                rw [valL_be8 hn] at this
                exact this
              have HV := Lib.hid HV
              have H22 := Lib.hid (H2.out.below HBw.out)
              have H23 := Lib.hid hcut9
              have hlt' : (k : Int) < (ns.length : Int) := by omega
              generalize ns.getD k 0 = nv at d1 HV
              clear hcut hcut8 hcut9 hys hyl hXX hn h8 hqk
              go_wp2_with fail
              refine wp_region_quiet_tail 15 (by kernel_rfl) (by kernel_rfl) ?_
              simp only [List.take_succ_cons, List.take_zero, List.drop_succ_cons, List.drop_zero]
              repeat (go_big_quiet_step ((go_at_call 54; exact quiet_eq (HV.out _))))
              refine wpQuiet_nil ?_
              rintro w' ⟨q, rfl⟩
              go_wp2_with (go_at_call 25; refine (bytes_same7 (H23.out.below (below_drewN (Below.refl _ _) q)) (H22.out.below (below_drewN (Below.refl _ _) q))).mono ?_; rintro e w9 ⟨rfl, hb⟩; have HB8 := Lib.hid ((below_drewN (Below.refl wx.heap.size wx) q).trans hb); have HB9 := Lib.hid (HBw.out.trans (HB8.out.mono HBw.out.size)); have HX9 := Lib.hid (HX.out.below HB8.out); clear hb)
              go_roundw
              case rel => exact ⟨k + 1, by omega, by go_num, HB9.out, HX9.out⟩
              case measure => simp [intOf]; omega
            · obtain rfl : k = ns.length := by omega
              go_wp2_with (go_at_call 47; (with_reducible refine (sure03 _).mono ?_); rintro e w9 ⟨rfl, hb⟩; have HB9 := Lib.hid (HBw.out.trans (hb.mono HBw.out.size)); clear hb)
              go_ret
              exact ⟨rfl, HB9.out⟩
end Go.Proofs.Ytdljlcbjpfgmcaa
