/- The walk of queue.put. Conditions: the buffer was laid behind what the queue reads; not too many properties. -/
import Derived.Test.YtoobcgakainelaaZQueA
namespace Go.Proofs.Ytoobcgakainelaa
open Go.RowKit
set_option maxRecDepth 100000
set_option maxHeartbeats 4000000

theorem wrap_u64n {n : Int} (h1 : 0 ≤ n) (h2 : n < 18446744073709551616) : IntKind.wrap .u64 n = n := by
  show n % 2 ^ 64 = n
  omega
theorem wf_u64n {n : Int} (h1 : 0 ≤ n) (h2 : n < 18446744073709551616) : (Lit.int .u64 n).wf = true := by
  simp [Lit.wf, IntKind.min, IntKind.max, IntKind.signed, IntKind.bits]; omega
theorem PutS.out {L : Nat} {w wr wr' : World} {p m : Nat} {g : Option Nat} {s' : Bf} {row : Obj} (h : PutS L w p m g g s' row wr) {v : Value} {pre : List (Int × List Int)} (ho : OutI (w.heap.size + 1) wr v pre) (hg : wr.grownBy wr' v.ownBlock) : PutS L w p m g g s' row wr' := by
  obtain ⟨xs, how, -⟩ := ho
  exact h.grown how (by decide) hg

def fewP (ps : List Prp) : Prop := ps.length ≤ 10000 ∧ ∀ x ∈ ps, x.2.2.length ≤ 10000

theorem que_put {L : Nat} {w0 w : World} {p m : Nat} {g : Option Nat} {s : Bf} (hb0 : Below w0.heap.size w0 w) (hL : w0.heap.size ≤ L) (h : Buf L w p m g s) {n1 n2 : Int} {pv : Value} {ps : List Prp} (hq : RowsOf PrpR 3 w0 pv ps) (hf : fewP ps)
    (h1 : (Lit.int .u64 n1).wf = true) (h2 : (Lit.int .u64 n2).wf = true) :
    Calls Try.prog 59 #[.pointer (some ⟨p, 0, none⟩), .agg #[.int .u64 n1, .int .u64 n2, pv]] w (GotB L w p m g (putQ s (n1, n2, ps)) (.tuple #[])) := by
  obtain ⟨a, cap, b, off, rfl, hcap, hmx, -, ha, hit⟩ := prps_open hq
  unfold maxLen at hmx
  have A := Lib.hid ha
  have HIt := Lib.hid hit
  have HF := Lib.hid hf
  have HB0 := Lib.hid hb0
  have P0 := Lib.hid (PutS.start (row := .cells #[.int .u64 n1, .int .u64 n2, .slice a ps.length cap] 79) h)
  have x0 := cell_row P0.out.own 0
  have x1 := cell_row P0.out.own 1
  have x2 := cell_row P0.out.own 2
  have HFr : Hid (∀ k, foot p m g k → w0.heap.size ≤ k) := fun k hk => Nat.le_trans hL (h.from k hk)
  clear hq ha hit hf h hb0
  go_enter Try.func59, Try.ntmps59
  go_wp2_with fail
  go_loopw [4, 14] (fun v i wr => ∃ k : Nat, k ≤ ps.length ∧ i = .int .i64 k ∧ Hid (OutI (w.heap.size + 1) wr v ((ps.take k).map itemQ)) ∧ Hid (PutS L w p m g g (failIf ((ps.take k).all fun x => (bodyQ x).isSome) s) (.cells #[.int .u64 n1, .int .u64 n2, .slice a ps.length cap] 79) wr)) (fun _ i _ => ps.length - (intOf i).toNat)
  case atStart => exact ⟨0, by omega, rfl, OutG.nil _ _ _ _ _, P0.out⟩
  case round =>
    obtain ⟨k, hk, rfl, HO, HP⟩ := hrel
    have HBr := Lib.hid (HP.out.turn.below HB0.out HB0.out.size HFr.out)
    by_cases hlt : k < ps.length
    · obtain rfl := A.out (by omega)
      obtain ⟨⟨t, n, bs⟩, hx⟩ : ∃ x, ps[k]? = some x := ⟨_, List.getElem?_eq_getElem hlt⟩
      obtain ⟨dv, x0, x1, x2, hd, hwt, hwn⟩ := HIt.out k t n bs hx
      have hbl : bs.length ≤ 10000 := HF.out.2 _ (List.mem_of_getElem? hx)
      have y0 := (HBr.out.cell (World.block_lt_of_cell? _ _ x0)).trans x0
      have y1 := (HBr.out.cell (World.block_lt_of_cell? _ _ x1)).trans x1
      have y2 := (HBr.out.cell (World.block_lt_of_cell? _ _ x2)).trans x2
      have hi := que_item (t := t) ((hd.below HBr.out).below (below_alloc2 (.cells #[.int .i64 t, .int .u64 n, dv] 81))) (by omega) hwn
      obtain ⟨ad, capd, bd, od, rfl, -⟩ := hd.open
      have HI := Lib.hid hi
      have HSn : Hid ((ps.take (k + 1)).map itemQ = (ps.take k).map itemQ ++ [itemQ (t, n, bs)]) := by show _ = _; rw [take_snoc' hx, List.map_append]; rfl
      have HSa : Hid (((ps.take (k + 1)).all fun x => (bodyQ x).isSome) = (((ps.take k).all fun x => (bodyQ x).isSome) && (bodyQ (t, n, bs)).isSome)) := by show _ = _; rw [take_snoc' hx, List.all_append]; simp
      have hln : ((ps.take k).map itemQ).length = k := by rw [List.length_map, List.length_take]; omega
      have hwi := itemQ_wf (t, n, bs)
      obtain ⟨ar, capr, rfl⟩ := OutG.slice HO.out
      have HLn := Lib.hid hln
      rw [hln]
      have HO : Hid (OutI (w.heap.size + 1) wr (.slice ar k capr) ((ps.take k).map itemQ)) := by have := HO.out; rw [hln] at this; exact this
      unfold GotItem at hi
      generalize (ps.take k).map itemQ = pre at HO HSn HLn
      generalize ((ps.take k).all fun x => (bodyQ x).isSome) = al at HP HSa
      generalize itemQ (t, n, bs) = it at hi hwi HSn
      generalize (bodyQ (t, n, bs)).isSome = ok at hi HSa
      obtain ⟨ty, bo⟩ := it
      have HI := Lib.hid hi
      have HWi := Lib.hid hwi
      have hk10 : k ≤ 10000 := by have := HF.out.1; omega
      clear hi hwi hx x0 x1 x2 hd hln
      have e1 : decide ((k : Int) < (ps.length : Int)) = true := decide_eq_true (by omega)
      cases ok with
      | true =>
        go_wp2_with fail
        refine HI.out.mono ?_
        rintro e w2 ⟨bv, rfl, ho, hu, hb⟩
        have hbr := ((below_alloc2 (w := wr) (.cells #[.int .i64 t, .int .u64 n, .slice ad bs.length capd] 81)).trans (hb.mono (by simp))).trans ((below_alloc2 (w := w2) (.cells #[.int .i64 ty, bv] 28)).mono (by have := hb.size; simp at this; omega))
        obtain ⟨ab, capb, rfl⟩ := own_slice ho
        have P2 := Lib.hid (HP.out.below hbr)
        have O2 := Lib.hid (OutG.below ItmO.kind HO.out hbr)
        have hlow : w.heap.size + 1 ≤ (wr.alloc (.cells #[.int .i64 t, .int .u64 n, .slice ad bs.length capd] 81)).heap.size := by have := HP.out.size; simp; omega
        have E2 : Hid (ItmO (w.heap.size + 1) (w2.alloc (.cells #[.int .i64 ty, .slice ab bo.length capb] 28)) (ty, bo) [.int .i64 ty, .slice ab bo.length capb]) := ⟨_, rfl, (own_base ho hlow).alloc _, hu, HWi.out⟩
        clear ho hu hb hbr hlow y0 y1 y2
        go_wp2_with (at_builtin; refine wpList_append_out ItmO.kind rfl _ _ _ rfl (w.heap.size + 1) 28 (by decide) (.agg #[.int .i64 0, .slice none 0 0]) 2 32 Try.underlying37 info_item rfl (by decide) (.slice ar k capr) pre (ty, bo) rfl O2.out [.int .i64 ty, .slice ab bo.length capb] (by rw [World.size_alloc]; rfl) rfl (by simp [Value.oneCell']) (by rw [HLn.out]; unfold maxLen; omega) (by rw [HLn.out]; omega) P2.out.size E2.out ?_; intro v' w5 hown hg; have HO5 := Lib.hid hown; have HP5 := Lib.hid (P2.out.out O2.out hg); clear hown hg)
        go_roundw
        case rel => exact ⟨k + 1, by omega, by go_num, by rw [HSn.out]; exact HO5.out, by rw [HSa.out, Bool.and_true]; exact HP5.out⟩
        case measure => simp [intOf]; omega
      | false =>
        go_wp2_with fail
        refine HI.out.mono ?_
        rintro e w2 ⟨bv, rfl, ho, hu, hb⟩
        have hbr := ((below_alloc2 (w := wr) (.cells #[.int .i64 t, .int .u64 n, .slice ad bs.length capd] 81)).trans (hb.mono (by simp))).trans ((below_alloc2 (w := w2) (.cells #[.int .i64 ty, bv] 28)).mono (by have := hb.size; simp at this; omega))
        obtain ⟨ab, capb, rfl⟩ := own_slice ho
        have P2 := Lib.hid (HP.out.below hbr)
        have O2 := Lib.hid (OutG.below ItmO.kind HO.out hbr)
        have hlow : w.heap.size + 1 ≤ (wr.alloc (.cells #[.int .i64 t, .int .u64 n, .slice ad bs.length capd] 81)).heap.size := by have := HP.out.size; simp; omega
        have E2 : Hid (ItmO (w.heap.size + 1) (w2.alloc (.cells #[.int .i64 ty, .slice ab bo.length capb] 28)) (ty, bo) [.int .i64 ty, .slice ab bo.length capb]) := ⟨_, rfl, (own_base ho hlow).alloc _, hu, HWi.out⟩
        have R2 := Lib.hid (heap_alloc_new w2 (.cells #[.int .i64 ty, .slice ab bo.length capb] 28))
        have hpl : p < w2.heap.size := by have := hb.size; have := HP.out.feet p (.inl rfl); have := HP.out.size; simp at *; omega
        have HPl := Lib.hid hpl
        clear ho hu hb hbr hlow y0 y1 y2 hpl
        go_wp2_with fail
        refine (buf_fail_g P2.out.buf 10001).mono ?_
        rintro e w3 ⟨rfl, hbf, hgp⟩
        have P3 := Lib.hid (P2.out.fail hbf hgp)
        have ha3 := agree_put (P2.out.feet p (.inl rfl)) hgp
        have O3 := Lib.hid (OutG.agree ItmO.kind O2.out ha3)
        have E3 := Lib.hid (ItmO.kind.agree E2.out ha3)
        have r3 := (hgp.block w2.heap.size (by simp) (by intro e; injection e with e; have := HPl.out; omega)).trans R2.out
        have z0 := cell_row r3 0
        have z1 := cell_row r3 1
        clear hbf hgp ha3 r3
        go_wp2_with (at_builtin; refine wpList_append_out ItmO.kind rfl _ _ _ rfl (w.heap.size + 1) 28 (by decide) (.agg #[.int .i64 0, .slice none 0 0]) 2 32 Try.underlying37 info_item rfl (by decide) (.slice ar k capr) pre (ty, bo) rfl O3.out [.int .i64 ty, .slice ab bo.length capb] rfl rfl (by simp [Value.oneCell']) (by rw [HLn.out]; unfold maxLen; omega) (by rw [HLn.out]; omega) P3.out.size E3.out ?_; intro v' w5 hown hg; have HO5 := Lib.hid hown; have HP5 := Lib.hid (P3.out.out O3.out hg); clear hown hg)
        go_roundw
        case rel => exact ⟨k + 1, by omega, by go_num, by rw [HSn.out]; exact HO5.out, by rw [HSa.out, failIf_step]; exact HP5.out⟩
        case measure => simp [intOf]; omega
    · obtain rfl : k = ps.length := by omega
      rw [List.take_length] at HO HP
      have e1 : decide ((ps.length : Int) < (ps.length : Int)) = false := decide_eq_false (by omega)
      have hjl : (joinQ ps).1.length ≤ 700000000 := by
        unfold joinQ Sh.join
        split
        · rename_i hc
          simp only [Bool.and_eq_true] at hc
          have := Sh.all_len hc.1 hc.2
          rw [List.length_map] at this
          have := HF.out.1
          show (shQ.all (ps.map itemQ)).length ≤ _
          omega
        · simp
      have hbo : ∀ x ∈ ps.map itemQ, x.2.length ≤ 1000000000 := fun x hx => by
        obtain ⟨y, hy, rfl⟩ := List.mem_map.1 hx
        have := itemQ_len y
        have := HF.out.2 y hy
        omega
      have HBo := Lib.hid hbo
      have HJl := Lib.hid hjl
      obtain ⟨ar, capr, rfl⟩ := OutG.slice HO.out
      rw [List.length_map]
      have HO : Hid (OutI (w.heap.size + 1) wr (.slice ar ps.length capr) (ps.map itemQ)) := by have := HO.out; rw [List.length_map] at this; exact this
      clear hbo hjl
      go_wp2_with fail
      refine (que_shape _).mono ?_
      rintro e w1 ⟨rfl, hb⟩
      have P1 := Lib.hid (HP.out.below hb)
      have O1 := Lib.hid (OutG.below ItmO.kind HO.out hb)
      clear hb
      go_wp2_with fail
      refine (tlv_join (s := shQ) (OutI.rows O1.out) (by rw [List.length_map]; have := HF.out.1; omega) HBo.out).mono ?_
      rintro e w2 ⟨vx, rfl, hox, hux, hb⟩
      have P2 := Lib.hid (P1.out.below hb)
      change w2.ownsRow w1.heap.size 5 1 vx (joinQ ps).1.length ((joinQ ps).1.map (Value.int .u8)) at hox
      change U8 (joinQ ps).1 at hux
      have X2 := Lib.hid (own_base hox P1.out.size)
      have HU := Lib.hid hux
      obtain ⟨ax, capx, rfl⟩ := own_slice hox
      clear hox hux hb
      change Hid ((joinQ ps).1.length ≤ 700000000) at HJl
      have HQ : Hid (putQ s (n1, n2, ps) = ((failIf (decide (16 + (joinQ ps).1.length ≤ 65528)) ((failIf (ps.all fun p => (bodyQ p).isSome) s).fail (joinQ ps).2)).row hdrQ [n1, n2, (16 + (joinQ ps).1.length : Nat)]).bytes (joinQ ps).1) := rfl
      rw [show shQ.join (ps.map itemQ) = joinQ ps from rfl]
      generalize (failIf (ps.all fun p => (bodyQ p).isSome) s) = s1 at P2 HQ
      generalize joinQ ps = j at X2 HU HJl HQ ⊢
      obtain ⟨x, er⟩ := j
      simp only at X2 HU HJl HQ ⊢
      have HQ := by have := HQ.out; rw [show ((16 + x.length : Nat) : Int) = 16 + (x.length : Int) by omega] at this; exact Lib.hid this
      go_wp2_with fail
      refine (buf_fail_g P2.out.buf er).mono ?_
      rintro e w3 ⟨rfl, hbf, hgp⟩
      have P3 := Lib.hid (P2.out.fail hbf hgp)
      have X3 := Lib.hid (own_agree X2.out (agree_put (P2.out.feet p (.inl rfl)) hgp))
      clear hbf hgp
      have hxl := HJl.out
      by_cases hx : 16 + x.length ≤ 65528
      · rw [decide_eq_true hx] at HQ
        have e2 : decide ((65528 : Int) < 16 + (x.length : Int)) = false := decide_eq_false (by omega)
        have P4 := Lib.hid (P3.out.below (below_alloc2 (.cells #[.int .i64 4, .int .i64 4, .int .i64 2, .int .i64 (-6)] 3)))
        have P5 := Lib.hid (P4.out.below (below_alloc2 (.cells #[.int .u64 n1, .int .u64 n2, .int .u64 (16 + (x.length : Int))] 76)))
        have x0 := cell_row P4.out.own 0
        have x1 := cell_row P4.out.own 1
        have hz : IntKind.wrap .u64 (16 + (x.length : Int)) = 16 + (x.length : Int) := wrap_u64n (by omega) (by omega)
        have hr := buf_row P5.out.buf ((Ints.lit .i64 w3 3 [4, 4, 2, -6] _ rfl (by decide) (by decide)).alloc (.cells #[.int .u64 n1, .int .u64 n2, .int .u64 (16 + (x.length : Int))] 76)) (Ints.lit .u64 (w3.alloc (.cells #[.int .i64 4, .int .i64 4, .int .i64 2, .int .i64 (-6)] 3)) 76 [n1, n2, 16 + (x.length : Int)] (w3.heap.size + 1) (by simp) (by simp) (by intro z hz; simp at hz; rcases hz with rfl | rfl | rfl; exact h1; exact h2; exact wf_u64n (by omega) (by omega)))
        have HR := Lib.hid hr
        have X5 := Lib.hid ((X3.out.alloc (.cells #[.int .i64 4, .int .i64 4, .int .i64 2, .int .i64 (-6)] 3)).alloc (.cells #[.int .u64 n1, .int .u64 n2, .int .u64 (16 + (x.length : Int))] 76))
        clear hr
        go_wp2_with fail
        refine HR.out.mono ?_
        rintro e w5 hg
        obtain ⟨g2, p6, -⟩ := P5.out.call hg (Buf.not_block P5.out.buf P5.out.own (by decide))
        obtain ⟨rfl, -, -, ht, -⟩ := hg
        have X6 := Lib.hid (ht.own X5.out (fun k e hf => by have := P5.out.feet k hf; have := (X5.out.lt k e).1; omega))
        have P6 := Lib.hid p6
        clear ht p6 x0 x1
        go_wp2_with fail
        refine (buf_bytes P6.out.buf (Ints.of_own X6.out HU.out.wf)).mono ?_
        rintro e w6 hg
        obtain ⟨g3, p7, -⟩ := P6.out.call hg (Buf.not_block P6.out.buf P6.out.own (by decide))
        obtain ⟨rfl, -⟩ := hg
        have P7 := Lib.hid p7
        clear p7
        go_wp2_with fail
        go_end0
        rw [HQ.out]
        exact ⟨rfl, g3, P7.out.buf, P7.out.turn, P7.out.fresh⟩
      · rw [decide_eq_false hx] at HQ
        have e2 : decide ((65528 : Int) < 16 + (x.length : Int)) = true := decide_eq_true (by omega)
        go_wp2_with fail
        refine (buf_fail_g P3.out.buf 10001).mono ?_
        rintro e w4 ⟨rfl, hbf, hgp⟩
        have P3' := Lib.hid (P3.out.fail hbf hgp)
        have X3' := Lib.hid (own_agree X3.out (agree_put (P3.out.feet p (.inl rfl)) hgp))
        clear hbf hgp
        have P4 := Lib.hid (P3'.out.below (below_alloc2 (.cells #[.int .i64 4, .int .i64 4, .int .i64 2, .int .i64 (-6)] 3)))
        have P5 := Lib.hid (P4.out.below (below_alloc2 (.cells #[.int .u64 n1, .int .u64 n2, .int .u64 (16 + (x.length : Int))] 76)))
        have x0 := cell_row P4.out.own 0
        have x1 := cell_row P4.out.own 1
        have hz : IntKind.wrap .u64 (16 + (x.length : Int)) = 16 + (x.length : Int) := wrap_u64n (by omega) (by omega)
        have hr := buf_row P5.out.buf ((Ints.lit .i64 w4 3 [4, 4, 2, -6] _ rfl (by decide) (by decide)).alloc (.cells #[.int .u64 n1, .int .u64 n2, .int .u64 (16 + (x.length : Int))] 76)) (Ints.lit .u64 (w4.alloc (.cells #[.int .i64 4, .int .i64 4, .int .i64 2, .int .i64 (-6)] 3)) 76 [n1, n2, 16 + (x.length : Int)] (w4.heap.size + 1) (by simp) (by simp) (by intro z hz; simp at hz; rcases hz with rfl | rfl | rfl; exact h1; exact h2; exact wf_u64n (by omega) (by omega)))
        have HR := Lib.hid hr
        have X5 := Lib.hid ((X3'.out.alloc (.cells #[.int .i64 4, .int .i64 4, .int .i64 2, .int .i64 (-6)] 3)).alloc (.cells #[.int .u64 n1, .int .u64 n2, .int .u64 (16 + (x.length : Int))] 76))
        clear hr
        go_wp2_with fail
        refine HR.out.mono ?_
        rintro e w5 hg
        obtain ⟨g2, p6, -⟩ := P5.out.call hg (Buf.not_block P5.out.buf P5.out.own (by decide))
        obtain ⟨rfl, -, -, ht, -⟩ := hg
        have X6 := Lib.hid (ht.own X5.out (fun k e hf => by have := P5.out.feet k hf; have := (X5.out.lt k e).1; omega))
        have P6 := Lib.hid p6
        clear ht p6 x0 x1
        go_wp2_with fail
        refine (buf_bytes P6.out.buf (Ints.of_own X6.out HU.out.wf)).mono ?_
        rintro e w6 hg
        obtain ⟨g3, p7, -⟩ := P6.out.call hg (Buf.not_block P6.out.buf P6.out.own (by decide))
        obtain ⟨rfl, -⟩ := hg
        have P7 := Lib.hid p7
        clear p7
        go_wp2_with fail
        go_end0
        rw [HQ.out]
        exact ⟨rfl, g3, P7.out.buf, P7.out.turn, P7.out.fresh⟩
end Go.Proofs.Ytoobcgakainelaa
