/- The walk of the law 'CursorReads': it returns true. Conditions: the arguments read as a list of bytes and a list of operations. -/
import Derived.Test.YtdljlcbjpfgmcaaCrK
import Derived.Test.YtdljlcbjpfgmcaaTail
import Derived.Test.YtdljlcbjpfgmcaaSure02
namespace Go.Proofs.Ytdljlcbjpfgmcaa
open Go.RowKit
set_option maxRecDepth 100000
set_option maxHeartbeats 4000000

theorem walk_CursorReads (v1 : Value) (bs : List Int) (v2 : Value) (l : List OpV) (w : World) (h1 : Ints .u8 w v1 bs) (h2 : OpsOk w v2 l) :
    Calls Try.prog 11 #[v1, v2] w fun e w' => e = .returned (.bool true) ∧ Below w.heap.size w w' := by
  have hle := h1.le
  have HF := Lib.hid (few02 v1 v2 bs l w h1 h2)
  have HX := Lib.hid h1
  have HO := Lib.hid h2
  obtain ⟨a1, cap1, b1, off1, rfl, -⟩ := h1.open
  obtain ⟨a, cap, b, off, rfl, hc1, hc2, ha, hcell⟩ := h2.sl
  have HA := Lib.hid ha
  have HC := Lib.hid hcell
  have hl := Lib.hid (show l.length ≤ 9223372036854775807 by unfold maxLen at hc2; omega)
  clear h1 h2 ha hcell
  go_enter Try.func11, Try.ntmps11
  go_wp2_with fail
  (with_reducible refine HF.out.mono ?_)
  rintro e w0 ⟨bf, rfl, hbf, rfl⟩
  cases bf
  case false =>
    go_wp2_with fail
    (with_reducible refine (sure02 _).mono ?_)
    rintro e w2 ⟨rfl, hb⟩
    have HB2 := Lib.hid hb
    clear hb
    go_wp2_with fail
    go_ret
    exact ⟨rfl, HB2.out⟩
  have hb2 : bs.length ≤ 2000 := hbf rfl
  clear hbf
  go_wp2_with (first
    | (at_builtin
       refine wpList_append_sl rfl (.tmp 17) (.tmp 18) _ rfl w0.heap.size 5 (.int .u8 0) 1 1 Try.underlying28 info_u8 rfl (by decide) _ 0 [] rfl (own_made0 w0 _ _ _ (Nat.le_refl _)) (.slice a1 bs.length cap1) bs.length (bs.map (Value.int .u8)) rfl (by simp) (HX.out.alloc _).1 (ints_one _ _) (by unfold maxLen; omega) (by omega) (by simp) ?_
       intro v5 w2 hown2 hgrow2 _
       rw [List.nil_append, Nat.zero_add] at hown2
       have HO2 := Lib.hid hown2
       have HB2 : Hid (Below w0.heap.size w0 w2) := own_grown (below_al _) (by simp) (own_made0 w0 w0.heap.size 5 1 (Nat.le_refl _)) hgrow2 rfl
       obtain ⟨a5, c5, rfl⟩ := own_slice hown2
       have HI2 := Lib.hid (Ints.of_own hown2 HX.out.u8.wf)
       have HNew := Lib.hid (cur_new HI2.out (by omega) 514 518)
       clear hown2 hgrow2)
    | (go_at_call 34
       (with_reducible refine HNew.out.mono ?_)
       rintro e w3 ⟨p, rfl, hc, hb⟩
       have HB3 := Lib.hid (HB2.out.trans (hb.mono HB2.out.size))
       have HO3 := Lib.hid (own_below HO2.out hb)
       have HC3 := Lib.hid hc
       have hs23 : Hid (w2.heap.size ≤ w3.heap.size) := hb.size
       have HDn := Lib.hid (doc_new (.slice a1 bs.length cap1) bs 514 518 w3 (HX.out.below HB3.out))
       clear hb hc)
    | (go_at_call 43
       (with_reducible refine HDn.out.mono ?_)
       rintro e w4 ⟨rfl, hb⟩
       have HB4 := Lib.hid (HB3.out.trans (hb.mono HB3.out.size))
       have HO4 := Lib.hid (own_below HO3.out hb)
       have HC4 := Lib.hid (HC3.out.below hb)
       have hs34 : Hid (w3.heap.size ≤ w4.heap.size) := hb.size
       clear hb))
  have hinv : Hid (Inv w0 (w4.alloc (.cells (docA (.slice a1 bs.length cap1) (St.fresh bs 514 518)) 62)) w2.heap.size w4.heap.size bs.length (.slice a5 bs.length c5) p (w2.heap.size, w3.heap.size) (St.fresh bs 514 518) (.slice a1 bs.length cap1) bs) := by
    refine ⟨HC4.out.below (below_al _), Nat.le_refl _, (by have := hs34.out; show w3.heap.size ≤ _; simp; omega), (by show (514 : Int) ≠ 0; decide), heap_alloc_new _ _, .inr hs34.out, (HX.out.below HB4.out).alloc _, ?_, own_below HO4.out (below_al _), fun k e => (HO2.out.lt k e).2, HB4.out.alloc HB4.out.size _, HB2.out.size, Nat.le_trans hs23.out hs34.out⟩
    rcases ints_block HX.out with h | h
    · exact .inl h
    · exact .inr fun k e => ⟨.inl (h k e), .inl (Nat.lt_of_lt_of_le (h k e) HB2.out.size)⟩
  clear HDn HNew HI2
  generalize w4.alloc (.cells (docA (.slice a1 bs.length cap1) (St.fresh bs 514 518)) 62) = w5 at hinv ⊢
  have hll := hl.out
  go_loopw [4, 6, 8] (fun r c i wr => ∃ (k : Nat) (p : Nat) (B : Nat × Nat) (s : St) (vB : Value) (ys : List Int), k ≤ l.length ∧ i = .int .i64 k ∧ r = .bool false ∧ c = .pointer (some ⟨p, 0, none⟩) ∧ Hid (Inv w0 wr w2.heap.size w4.heap.size bs.length (.slice a5 bs.length c5) p B s vB ys)) (fun _ _ i _ => l.length - (intOf i).toNat)
  case atStart => exact ⟨0, p, _, _, _, _, Nat.zero_le _, rfl, rfl, rfl, hinv⟩
  case round =>
    obtain ⟨k, p, B, s, vB, ys, hk, rfl, rfl, rfl, HI⟩ := hrel
    by_cases hlt : k < l.length
    case neg =>
      obtain rfl : k = l.length := by omega
      go_wp2_with fail
      (with_reducible refine (sure02 _).mono ?_)
      rintro e w9 ⟨rfl, hb⟩
      have HB9 := Lib.hid (HI.out.below.trans (hb.mono HI.out.below.size))
      clear hb
      go_wp2_with fail
      go_ret
      exact ⟨rfl, HB9.out⟩
    obtain rfl := HA.out (by omega)
    obtain ⟨o, ho⟩ : ∃ o, l[k]? = some o := ⟨l[k], List.getElem?_eq_getElem hlt⟩
    have hmem := List.mem_iff_getElem?.2 ⟨k, ho⟩
    have hlt' : (k : Int) < l.length := by omega
    obtain ⟨c0, c1, c2⟩ := HC.out k o ho
    have hwi := HO.out.ints o hmem
    have hwn := (HO.out.wf o hmem).2
    obtain ⟨aw, cw, bw, ow, ew, -⟩ := hwi.open
    have tr : ∀ {a : Addr} {v : Value}, w0.cell? a = some v → wr.cell? a = some v := fun {a v} h => (HI.out.below.cell (World.block_lt_of_cell? _ _ h)).trans h
    have c0 : wr.cell? ⟨b, off + k * 3, none⟩ = some (.int .i64 o.kind) := tr c0
    have c1 := tr c1
    have c2 := tr c2
    rw [ew] at c2 hwi
    have HWi := Lib.hid hwi
    obtain ⟨av, cv, bv, ov, rfl, -⟩ := HI.out.bytes.open
    have k0 : wr.cell? ⟨w4.heap.size, 0, none⟩ = some (.slice av s.bs.length cv) := cell_at HI.out.doc 0
    have k1 : wr.cell? ⟨w4.heap.size, 1, none⟩ = some (.int .i64 s.pos) := cell_at HI.out.doc 1
    have k2 : wr.cell? ⟨w4.heap.size, 2, none⟩ = some (.int .i64 s.sh) := cell_at HI.out.doc 2
    have k3 : wr.cell? ⟨w4.heap.size, 3, none⟩ = some (.int .i64 s.od) := cell_at HI.out.doc 3
    have k4 : wr.cell? ⟨w4.heap.size, 4, none⟩ = some (.int .i64 s.er) := cell_at HI.out.doc 4
    have HJ := Lib.hid (HI.out.later (below_drewN (Below.refl wr.heap.size wr) 1))
    have HOp := Lib.hid (op_u B p s o.kind o.n (.slice av s.bs.length cv) (.slice aw o.ws.length cw) o.ws wr.drew HJ.out.cur HJ.out.upto HJ.out.bytes HJ.out.notp HJ.out.sh (HWi.out.below HJ.out.below) hwn)
    have hpn := Lib.hid HI.out.pd_ne
    have hpl := Lib.hid (Array.getElem?_eq_some_iff.1 HI.out.doc).1
    clear ho hmem ew hwi hwn tr
    go_wp2_with fail
    first
    | go_region_law (go_simp
                     go_at_call 44
                     (with_reducible refine HOp.out.mono ?_)
                     rintro e1 w6 ⟨q, a6, c6, B6, s6, rfl, hc6, hi6, hsh6, hB6, hg6, hd6⟩
                     have HC6 := Lib.hid hc6
                     have HX6 := Lib.hid hi6
                     have HS6 := Lib.hid hsh6
                     have HU6 := Lib.hid hB6
                     have HG6 := Lib.hid hg6
                     have HD6 := Lib.hid hd6
                     have HP6 := Lib.hid ((hg6.block w4.heap.size hpl.out (by have := hpn.out; intro e; injection e; omega)).trans HJ.out.doc)
                     clear hc6 hi6 hsh6 hB6 hg6 hd6
                     have z0 : w6.cell? ⟨w4.heap.size, 0, none⟩ = some (.slice av s.bs.length cv) := cell_at HP6.out 0
                     have z1 : w6.cell? ⟨w4.heap.size, 1, none⟩ = some (.int .i64 s.pos) := cell_at HP6.out 1
                     have z2 : w6.cell? ⟨w4.heap.size, 2, none⟩ = some (.int .i64 s.sh) := cell_at HP6.out 2
                     have z3 : w6.cell? ⟨w4.heap.size, 3, none⟩ = some (.int .i64 s.od) := cell_at HP6.out 3
                     have z4 : w6.cell? ⟨w4.heap.size, 4, none⟩ = some (.int .i64 s.er) := cell_at HP6.out 4
                     have f0 : w6.frozen? ⟨w4.heap.size, 0, none⟩ = false := (by simp only [World.frozen?, HP6.out]; rfl)
                     have f1 : w6.frozen? ⟨w4.heap.size, 1, none⟩ = false := (by simp only [World.frozen?, HP6.out]; rfl)
                     have f2 : w6.frozen? ⟨w4.heap.size, 2, none⟩ = false := (by simp only [World.frozen?, HP6.out]; rfl)
                     have f3 : w6.frozen? ⟨w4.heap.size, 3, none⟩ = false := (by simp only [World.frozen?, HP6.out]; rfl)
                     have f4 : w6.frozen? ⟨w4.heap.size, 4, none⟩ = false := (by simp only [World.frozen?, HP6.out]; rfl))
    | fail
    all_goals
      obtain ⟨yZ, gZ⟩ := rows5 HP6.out (.slice a6 s6.bs.length c6) (.int .i64 s6.pos) (.int .i64 s6.sh) (.int .i64 s6.od) (.int .i64 s6.er)
      have HI7 : Hid (Inv w0 (((((w6.setCell ⟨w4.heap.size, 0, none⟩ (.slice a6 s6.bs.length c6)).setCell ⟨w4.heap.size, 1, none⟩ (.int .i64 s6.pos)).setCell ⟨w4.heap.size, 2, none⟩ (.int .i64 s6.sh)).setCell ⟨w4.heap.size, 3, none⟩ (.int .i64 s6.od)).setCell ⟨w4.heap.size, 4, none⟩ (.int .i64 s6.er)) w2.heap.size w4.heap.size bs.length (.slice a5 bs.length c5) q B6 s6 (.slice a6 s6.bs.length c6) ys) := Inv.op HJ.out HC6.out HX6.out HS6.out HU6.out HG6.out HD6.out gZ yZ
      clear yZ gZ z0 z1 z2 z3 z4 f0 f1 f2 f3 f4 HC6 HX6 HS6 HU6 HG6 HD6 HP6 HOp HJ HI k0 k1 k2 k3 k4 c0 c1 c2 hpn hpl HWi
      generalize (((((w6.setCell ⟨w4.heap.size, 0, none⟩ (.slice a6 s6.bs.length c6)).setCell ⟨w4.heap.size, 1, none⟩ (.int .i64 s6.pos)).setCell ⟨w4.heap.size, 2, none⟩ (.int .i64 s6.sh)).setCell ⟨w4.heap.size, 3, none⟩ (.int .i64 s6.od)).setCell ⟨w4.heap.size, 4, none⟩ (.int .i64 s6.er)) = w7 at HI7 ⊢
      have HLk := Lib.hid (cur_look HI7.out.cur)
      go_wp2_with fail
      (with_reducible refine HLk.out.mono ?_)
      rintro e1 w8 ⟨vl, rfl, hlk, hb⟩
      have HI8 := Lib.hid (HI7.out.later hb)
      have HK8 := Lib.hid hlk
      obtain ⟨al, cl, bl, ol, rfl, -⟩ := hlk.open
      clear hb hlk
      have k0 : w8.cell? ⟨w4.heap.size, 0, none⟩ = some (.slice a6 s6.bs.length c6) := cell_at HI8.out.doc 0
      have k1 : w8.cell? ⟨w4.heap.size, 1, none⟩ = some (.int .i64 s6.pos) := cell_at HI8.out.doc 1
      have k2 : w8.cell? ⟨w4.heap.size, 2, none⟩ = some (.int .i64 s6.sh) := cell_at HI8.out.doc 2
      have k3 : w8.cell? ⟨w4.heap.size, 3, none⟩ = some (.int .i64 s6.od) := cell_at HI8.out.doc 3
      have k4 : w8.cell? ⟨w4.heap.size, 4, none⟩ = some (.int .i64 s6.er) := cell_at HI8.out.doc 4
      by_cases he : s6.er = 0
      case pos =>
        have e0 : (s6.er == 0) = true := by simpa using he
        have e2 : (s6.er != 0) = false := by simpa using he
        obtain ⟨A, hsl, hcut⟩ := slice_from Try.underlying28 info_u8 HI8.out.bytes (s6.pos : Int) s6.pos rfl HI8.out.cur.ok.1
        have hlook : s6.look = s6.bs.drop s6.pos := by simp [St.look, he, St.rest]
        have hK := HK8.out
        rw [hlook] at hK
        have hln : s6.look.length = s6.bs.length - s6.pos := by rw [hlook, List.length_drop]
        rw [List.length_drop] at hK
        have HBy := Lib.hid (bytes_eq hK hcut)
        rw [hln]
        clear hcut hK he hlook
        go_wp2_with fail
        (with_reducible refine HBy.out.mono ?_)
        rintro e1 w9 ⟨rfl, hb⟩
        have HI9 := Lib.hid (HI8.out.later hb)
        clear hb k0 k1 k2 k3 k4
        have k0 : w9.cell? ⟨w4.heap.size, 0, none⟩ = some (.slice a6 s6.bs.length c6) := cell_at HI9.out.doc 0
        have k1 : w9.cell? ⟨w4.heap.size, 1, none⟩ = some (.int .i64 s6.pos) := cell_at HI9.out.doc 1
        have k2 : w9.cell? ⟨w4.heap.size, 2, none⟩ = some (.int .i64 s6.sh) := cell_at HI9.out.doc 2
        have k3 : w9.cell? ⟨w4.heap.size, 3, none⟩ = some (.int .i64 s6.od) := cell_at HI9.out.doc 3
        have k4 : w9.cell? ⟨w4.heap.size, 4, none⟩ = some (.int .i64 s6.er) := cell_at HI9.out.doc 4
        go_wp2_with fail
        have b1 : (s6.er != s6.er) = false := by simp
        have b2 : ((s6.left : Int) != (s6.left : Int)) = false := by simp
        have b3 : ((s6.pos : Int) != (s6.pos : Int)) = false := by simp
        have HL2 := fun w' (hb : Below w9.heap.size w9 w') => Lib.hid (doc_left (.slice a6 s6.bs.length c6) s6 w' (HI9.out.bytes.below hb) HI9.out.cur.ok.1)
        have HSS : Hid (HeldC w9 w9 B6 q w4.heap.size s6 (.slice a6 s6.bs.length c6)) := ⟨⟨k0, k1, k2, k3, k4⟩, HI9.out.cur, Below.refl _ _⟩
        have HSd : HeldC w9 w9.drew B6 q w4.heap.size s6 (.slice a6 s6.bs.length c6) := ⟨⟨k0, k1, k2, k3, k4⟩, HI9.out.cur.drew 1, below_drewN (Below.refl _ _) 1⟩
        have HS0 := HSS.out
        clear k0 k1 k2 k3 k4
        go_region_held (fun w' => HeldC w9 w' B6 q w4.heap.size s6 (.slice a6 s6.bs.length c6)) (first | assumption | exact HSd) (first
          | (go_at_call 37; refine (cur_left (HeldC.cur (by assumption))).mono ?_; rintro e1 w' ⟨rfl, qq, hq'⟩; have hS' := HeldC.next (by assumption) (left_below hq'); clear hq')
          | (go_at_call 46; refine (HL2 _ (HeldC.bel (by assumption))).out.mono ?_; rintro e1 w' ⟨rfl, hb⟩; have hS' := HeldC.next (by assumption) hb; clear hb)
          | (go_at_call 36; refine (cur_err (HeldC.cur (by assumption))).mono ?_; rintro e1 w' ⟨rfl, rfl⟩)
          | (go_at_call 41; refine (cur_at (HeldC.cur (by assumption))).mono ?_; rintro e1 w' ⟨rfl, rfl⟩))
        all_goals
          have HIa := Lib.hid (HI9.out.later (HeldC.bel hS'))
          clear HS0
          go_wp2_with fail
          go_loopw [11] (fun i wi => ∃ (j : Nat) (zs : List Int), j ≤ bs.length ∧ i = .int .i64 j ∧ Hid (Inv w0 wi w2.heap.size w4.heap.size bs.length (.slice a5 bs.length c5) q B6 s6 (.slice a6 s6.bs.length c6) zs)) (fun i _ => bs.length - (intOf i).toNat)
          case atStart => exact ⟨0, ys, Nat.zero_le _, rfl, HIa⟩
          case round =>
            obtain ⟨j, zs, hj, rfl, HJ⟩ := hrel
            by_cases hjl : j < bs.length
            · obtain ⟨gx, rfl, hyl⟩ : ∃ gx, a5 = some ⟨gx, 0, none⟩ ∧ zs.length = bs.length := by
                obtain ⟨hl, ⟨h, h0⟩ | ⟨gx, capq, cur, hv, -⟩⟩ := HJ.out.own
                · omega
                · injection hv with e1 e2 e3
                  exact ⟨gx, e1, by simpa using hl⟩
              have hc := HJ.out.own.cellAt j (by omega)
              rw [show (zs.map (Value.int .u8))[j]? = some (.int .u8 (zs.getD j 0)) by rw [List.getElem?_map, List.getD, List.getElem?_eq_getElem (by omega)]; rfl] at hc
              have hf := HJ.out.own.frozenAt j
              have hjl' : (j : Int) < (bs.length : Int) := by omega
              generalize zs.getD j 0 = y at hc
              go_wp2_with fail
              go_roundw
              case rel => exact ⟨j + 1, zs.set j _, by omega, by go_num, HJ.out.put j _⟩
              case measure => simp [intOf]; omega
            · obtain rfl : j = bs.length := by omega
              go_wp2_with fail
              go_roundw
              case rel => exact ⟨k + 1, q, B6, s6, _, zs, by omega, by go_num, rfl, rfl, HJ⟩
              case measure => simp [intOf]; omega
      case neg =>
        have e0 : (s6.er == 0) = false := by simpa using he
        have e2 : (s6.er != 0) = true := by simpa using he
        have hlook : s6.look.length = 0 := by simp [St.look, he]
        rw [hlook]
        clear he
        go_wp2_with fail
        have b1 : (s6.er != s6.er) = false := by simp
        have b2 : ((s6.left : Int) != (s6.left : Int)) = false := by simp
        have b3 : ((s6.pos : Int) != (s6.pos : Int)) = false := by simp
        have HL2 := fun w' (hb : Below w8.heap.size w8 w') => Lib.hid (doc_left (.slice a6 s6.bs.length c6) s6 w' (HI8.out.bytes.below hb) HI8.out.cur.ok.1)
        have HSS : Hid (HeldC w8 w8 B6 q w4.heap.size s6 (.slice a6 s6.bs.length c6)) := ⟨⟨k0, k1, k2, k3, k4⟩, HI8.out.cur, Below.refl _ _⟩
        have HSd : HeldC w8 w8.drew B6 q w4.heap.size s6 (.slice a6 s6.bs.length c6) := ⟨⟨k0, k1, k2, k3, k4⟩, HI8.out.cur.drew 1, below_drewN (Below.refl _ _) 1⟩
        have HS0 := HSS.out
        clear k0 k1 k2 k3 k4
        go_region_held (fun w' => HeldC w8 w' B6 q w4.heap.size s6 (.slice a6 s6.bs.length c6)) (first | assumption | exact HSd) (first
          | (go_at_call 37; refine (cur_left (HeldC.cur (by assumption))).mono ?_; rintro e1 w' ⟨rfl, qq, hq'⟩; have hS' := HeldC.next (by assumption) (left_below hq'); clear hq')
          | (go_at_call 46; refine (HL2 _ (HeldC.bel (by assumption))).out.mono ?_; rintro e1 w' ⟨rfl, hb⟩; have hS' := HeldC.next (by assumption) hb; clear hb)
          | (go_at_call 36; refine (cur_err (HeldC.cur (by assumption))).mono ?_; rintro e1 w' ⟨rfl, rfl⟩)
          | (go_at_call 41; refine (cur_at (HeldC.cur (by assumption))).mono ?_; rintro e1 w' ⟨rfl, rfl⟩))
        all_goals
          have HIa := Lib.hid (HI8.out.later (HeldC.bel hS'))
          clear HS0
          go_wp2_with fail
          go_loopw [11] (fun i wi => ∃ (j : Nat) (zs : List Int), j ≤ bs.length ∧ i = .int .i64 j ∧ Hid (Inv w0 wi w2.heap.size w4.heap.size bs.length (.slice a5 bs.length c5) q B6 s6 (.slice a6 s6.bs.length c6) zs)) (fun i _ => bs.length - (intOf i).toNat)
          case atStart => exact ⟨0, ys, Nat.zero_le _, rfl, HIa⟩
          case round =>
            obtain ⟨j, zs, hj, rfl, HJ⟩ := hrel
            by_cases hjl : j < bs.length
            · obtain ⟨gx, rfl, hyl⟩ : ∃ gx, a5 = some ⟨gx, 0, none⟩ ∧ zs.length = bs.length := by
                obtain ⟨hl, ⟨h, h0⟩ | ⟨gx, capq, cur, hv, -⟩⟩ := HJ.out.own
                · omega
                · injection hv with e1 e2 e3
                  exact ⟨gx, e1, by simpa using hl⟩
              have hc := HJ.out.own.cellAt j (by omega)
              rw [show (zs.map (Value.int .u8))[j]? = some (.int .u8 (zs.getD j 0)) by rw [List.getElem?_map, List.getD, List.getElem?_eq_getElem (by omega)]; rfl] at hc
              have hf := HJ.out.own.frozenAt j
              have hjl' : (j : Int) < (bs.length : Int) := by omega
              generalize zs.getD j 0 = y at hc
              go_wp2_with fail
              go_roundw
              case rel => exact ⟨j + 1, zs.set j _, by omega, by go_num, HJ.out.put j _⟩
              case measure => simp [intOf]; omega
            · obtain rfl : j = bs.length := by omega
              go_wp2_with fail
              go_roundw
              case rel => exact ⟨k + 1, q, B6, s6, _, zs, by omega, by go_num, rfl, rfl, HJ⟩
              case measure => simp [intOf]; omega
end Go.Proofs.Ytdljlcbjpfgmcaa
