/- The walk of TlvBack. Conditions: the arguments read as a shape, things and bytes. -/
import Derived.Test.YtoobcgakainelaaTlvBackP
namespace Go.Proofs.Ytoobcgakainelaa
open Go.RowKit
set_option maxRecDepth 100000
set_option maxHeartbeats 4000000

theorem back_sure (s : Sh) (v1 v2 : Value) (l : List (Int × List Int)) (bs : List Int) (w : World) (h1 : RowsOf ItemR 2 w v1 l) (h2 : Ints .u8 w v2 bs) (h : fewT l = false ∨ 3000 < bs.length) :
    Calls Try.prog 5 #[s.val, v1, v2] w fun e w' => e = .returned (.bool true) ∧ Below w.heap.size w w' := by
  have hf := law_few (h1.below ItemR.lasts (below_alloc2 (.cells #[.int .i64 s.least, .int .i64 s.step, .bool s.pad, .int .i64 s.bad, .int .i64 s.odd] 24)))
  have hs := sure04 (w.alloc (.cells #[.int .i64 s.least, .int .i64 s.step, .bool s.pad, .int .i64 s.bad, .int .i64 s.odd] 24))
  obtain ⟨a2, cap2, b2, off2, rfl, -⟩ := h2.open
  have HS := Lib.hid hs
  simp only [Sh.val]
  cases hfe : fewT l with
  | false =>
    rw [hfe] at hf
    have HF := Lib.hid hf
    clear h hf hfe h1 h2 hs
    go_enter Try.func5, Try.ntmps5
    go_wp2_with (first
      | (go_at_call 18; (with_reducible refine HF.out.mono ?_); rintro e w1 ⟨rfl, rfl⟩)
      | (go_at_call 9; (with_reducible refine HS.out.mono ?_); rintro e w1 ⟨rfl, hb⟩; have HB := Lib.hid hb; clear hb))
    go_ret
    exact ⟨rfl, below1 HB.out⟩
  | true =>
    rw [hfe] at hf
    have HF := Lib.hid hf
    have hl : 3000 < bs.length := by rcases h with h | h; · rw [hfe] at h; cases h
                                     · exact h
    have e1 : decide ((3000 : Int) < (bs.length : Int)) = true := decide_eq_true (by omega)
    clear h hf hfe h1 h2 hs hl
    go_enter Try.func5, Try.ntmps5
    go_wp2_with (first
      | (go_at_call 18; (with_reducible refine HF.out.mono ?_); rintro e w1 ⟨rfl, rfl⟩)
      | (go_at_call 9; (with_reducible refine HS.out.mono ?_); rintro e w1 ⟨rfl, hb⟩; have HB := Lib.hid hb; clear hb))
    go_ret
    exact ⟨rfl, below1 HB.out⟩

theorem back_main (s : Sh) (v1 v2 : Value) (l : List (Int × List Int)) (bs : List Int) (w : World) (h1 : RowsOf ItemR 2 w v1 l) (h2 : Ints .u8 w v2 bs) (hf : fewT l = true) (hl : bs.length ≤ 3000) :
    Calls Try.prog 5 #[s.val, v1, v2] w fun e w' => e = .returned (.bool true) ∧ Below w.heap.size w w' := by
  obtain ⟨hfl, hfb⟩ := few_bodies hf
  have hfe := law_few (h1.below ItemR.lasts (below_alloc2 (.cells #[.int .i64 s.least, .int .i64 s.step, .bool s.pad, .int .i64 s.bad, .int .i64 s.odd] 24)))
  rw [hf] at hfe
  have HF := Lib.hid hfe
  have H0 := Lib.hid (Sh1.start w s)
  have HI1 := Lib.hid h1
  have HI2 := Lib.hid h2
  have HFb := Lib.hid hfb
  obtain ⟨a, cap, b, off, rfl, hcap, hmx, -, ha, hit⟩ := items_open h1
  obtain ⟨a2, cap2, b2, off2, rfl, -⟩ := h2.open
  unfold maxLen at hmx
  have A := Lib.hid ha
  have HIt := Lib.hid hit
  have e1 : decide ((3000 : Int) < (bs.length : Int)) = false := decide_eq_false (by omega)
  have hj := tlv_join (s := s) (h1.below ItemR.lasts (below_alloc2 (.cells #[.int .i64 s.least, .int .i64 s.step, .bool s.pad, .int .i64 s.bad, .int .i64 s.odd] 24))) (by omega) (fun x hx => by have := hfb x hx; omega)
  clear h1 h2 hf hfe hfb ha hit
  simp only [Sh.val]
  go_enter Try.func5, Try.ntmps5
  go_wp2_with (go_at_call 18; (with_reducible refine HF.out.mono ?_); rintro e w1 ⟨rfl, rfl⟩)
  refine hj.mono ?_
  clear hj
  rintro e w2 ⟨vx, rfl, hox, hux, hb⟩
  have H2 := Lib.hid (H0.out.cell _ hb)
  have HX2 := Lib.hid (Ints.of_own hox hux.wf)
  obtain ⟨ax, capx, rfl⟩ := own_slice hox
  clear hox hux hb
  by_cases he : (s.join l).2 = 0
  · obtain ⟨hm, hg, hall⟩ := join_ok he
    have hcj := Sh.cut_join he
    have hlen := Sh.all_len hm hg
    rw [hall] at HX2 hcj ⊢
    rw [he]
    have HM := Lib.hid hm
    have HGd := Lib.hid hg
    clear he hall hm hg
    obtain ⟨c0, c1, c2, c3, c4⟩ := H2.out.cells
    have hc := tlv_cut (s := s) HX2.out (by omega)
    unfold GotCut at hc
    rw [hcj] at hc
    have HC := Lib.hid hc
    clear hc hcj
    go_wp2_with fail
    refine HC.out.mono ?_
    rintro e w3 ⟨vm, rfl, ho, hb⟩
    have H3 := Lib.hid (H2.out.cell _ hb)
    have HX3 := Lib.hid (HX2.out.below hb)
    have hi1 := law_items ho.rows (by omega)
    have HI3 := Lib.hid hi1
    obtain ⟨am, capm, rfl⟩ := ho.slice
    clear ho hb hi1 c0 c1 c2 c3 c4
    go_wp2_with fail
    refine HI3.out.mono ?_
    rintro e w4 ⟨r4, rfl, hr4, hb⟩
    have H4 := Lib.hid (H3.out.cell _ hb)
    have HX4 := Lib.hid (HX3.out.below hb)
    have HR4 := Lib.hid hr4
    obtain ⟨a4, cap4, -, -, rfl, -⟩ := items_open hr4
    clear hb hr4
    go_wp2_with fail
    refine (law_items (HI1.out.below ItemR.lasts H4.out.below) (by omega)).mono ?_
    rintro e w5 ⟨r5, rfl, hr5, hb⟩
    have H5 := Lib.hid (H4.out.cell _ hb)
    have HX5 := Lib.hid (HX4.out.below hb)
    have hsm := ref_same (HR4.out.below ItemR.lasts hb) hr5
    rw [decide_eq_true rfl] at hsm
    have HSm := Lib.hid hsm
    obtain ⟨a5, cap5, -, -, rfl, -⟩ := items_open hr5
    clear hb hr5 hsm
    go_wp2_with fail
    refine HSm.out.mono ?_
    rintro e w6 ⟨rfl, hq⟩
    have hb6 : Below w5.heap.size w5 w6 := by obtain ⟨q, rfl⟩ := hq; exact below_drewN (Below.refl _ _) _
    have H6 := Lib.hid (H5.out.cell _ hb6)
    have HX6 := Lib.hid (HX5.out.below hb6)
    clear hq hb6
    go_wp2_with fail
    go_loopw [11, 12] (fun atv i wr => ∃ k : Nat, k ≤ l.length ∧ i = .int .i64 k ∧ atv = .int .i64 ((s.all (l.take k)).length : Nat) ∧ Hid (Sh1 w s wr) ∧ Hid (Ints .u8 wr (.slice ax (s.all l).length capx) (s.all l))) (fun _ i _ => l.length - (intOf i).toNat)
    case atStart => exact ⟨0, by omega, rfl, rfl, H6.out, HX6.out⟩
    case round =>
      obtain ⟨k, hk, rfl, rfl, HR, HXr⟩ := hrel
      by_cases hlt : k < l.length
      case neg =>
        obtain rfl : k = l.length := by omega
        rw [List.take_length]
        have e5 : (((s.all l).length : Int) != ((s.all l).length : Int)) = false := by simp
        obtain ⟨c0, c1, c2, c3, c4⟩ := HR.out.cells
        go_wp2_with fail
        refine (tlv_cut (s := s) (HI2.out.below HR.out.below) (by omega)).mono ?_
        rintro e wy ⟨vm, rfl, ho, hb⟩
        have HY := Lib.hid (HR.out.cell _ hb)
        clear hb c0 c1 c2 c3 c4
        obtain ⟨c0, c1, c2, c3, c4⟩ := HY.out.cells
        by_cases he : (s.cut bs).2 = 0
        · obtain ⟨q1, q2, q3, q4⟩ := cut_ok HI2.out.u8 he
          have hml := Sh.all_ge (s := s) (s.cut bs).1
          have hgb := good_bodies q2
          rw [q3] at hml
          rw [he]
          clear he
          generalize (s.cut bs).1 = m at q2 q3 q4 hml hgb ho ⊢
          have hj := tlv_join (s := s) ho.rows (by omega) (fun x hx => by have := hgb x hx; omega)
          unfold GotJoin at hj
          rw [q4] at hj
          have HJ := Lib.hid hj
          obtain ⟨am, capm, rfl⟩ := ho.slice
          clear ho q1 q2 q3 q4 hml hgb hj
          go_wp2_with fail
          refine HJ.out.mono ?_
          rintro e wz ⟨vx, rfl, hox, hux, hbx⟩
          have HZ := Lib.hid (HY.out.cell _ hbx)
          have hby := ref_bytes_q vx _ bs bs wz (Ints.of_own hox hux.wf) (HI2.out.below HZ.out.below)
          rw [decide_eq_true rfl] at hby
          have HBy := Lib.hid hby
          obtain ⟨ax9, capx9, rfl⟩ := own_slice hox
          clear hox hux hbx hby
          go_wp2_with fail
          refine HBy.out.mono ?_
          rintro e wv ⟨rfl, qq, rfl⟩
          go_wp2_with fail
          refine (sure04 _).mono ?_
          rintro e wu ⟨rfl, hb⟩
          have HB9 := Lib.hid ((below_drewN HZ.out.below qq).trans (hb.mono (by exact HZ.out.below.size)))
          clear hb
          go_wp2_with fail
          go_ret
          exact ⟨rfl, HB9.out⟩
        · have hnil := Sh.cut_err he
          have hne : ((s.cut bs).2 != 0) = true := by simpa using he
          rw [hnil] at ho
          obtain ⟨am, capm, rfl⟩ := ho.slice
          generalize (s.cut bs).2 = er at hne ⊢
          clear ho hnil he
          go_wp2_with fail
          refine (sure04 _).mono ?_
          rintro e wu ⟨rfl, hb⟩
          have HB9 := Lib.hid (HY.out.below.trans (hb.mono HY.out.below.size))
          clear hb
          go_wp2_with fail
          go_ret
          exact ⟨rfl, HB9.out⟩
      obtain rfl := A.out (by omega)
      obtain ⟨⟨t, zs⟩, hx⟩ : ∃ x, l[k]? = some x := ⟨_, List.getElem?_eq_getElem hlt⟩
      obtain ⟨bv0, x0, x1, -, hwf⟩ := HIt.out k t zs hx
      obtain ⟨ho, hle, hnext⟩ := Sh.one_at HM.out HGd.out hx
      have hn4 := s.thing_len (t, zs)
      obtain ⟨A', hsl, hcut⟩ := slice_from Try.underlying25 info_u8 HXr.out ((s.all (l.take k)).length : Int) (s.all (l.take k)).length rfl (by omega)
      have hdl : ((s.all l).drop (s.all (l.take k)).length).length ≤ 1000000000 := by rw [List.length_drop]; omega
      have hone1 := tlv_one (s := s) (w := wr.drew) (hcut.below (below_drewN (Below.refl _ _) 1)) hdl
      have hone2 := tlv_one (s := s) (w := (wr.alloc (.cells #[.int .i64 0, .slice none 0 0] 28)).drew) (hcut.below (below_drewN (below_alloc2 _) 1)) hdl
      unfold GotOne at hone1 hone2
      rw [ho] at hone1 hone2
      have HO1 := Lib.hid hone1
      have HO2 := Lib.hid hone2
      simp only at hn4
      have hn4' : 4 ≤ (s.thing (t, zs)).length := by omega
      have HNx := Lib.hid hnext
      clear hn4 ho hcut hdl hone1 hone2 hnext hx
      generalize (s.all (l.take k)).length = N0 at hle hsl HO1 HO2 HNx ⊢
      generalize (s.thing (t, zs)).length = n at hle hn4' HO1 HO2 HNx
      obtain ⟨c0, c1, c2, c3, c4⟩ := HR.out.cells
      have hr2 := HR.out.cell _ (below_alloc2 (.cells #[.int .i64 0, .slice none 0 0] 28))
      obtain ⟨z0, z1, z2, z3, z4⟩ := hr2.cells
      have Y0 : Hid (w.cell? ⟨b, off + k * 2, none⟩ = some (.int .i64 t)) := x0
      clear hr2 x0 x1
      go_wp2_with fail
      go_region_law (first
        | (go_simp; go_at_call 10; (with_reducible refine HO1.out.mono ?_); rintro e w6 ⟨bv, rfl, ho, hu, hb⟩; obtain ⟨ab, capb, rfl⟩ := own_slice ho; have HB6 := Lib.hid ((below_drewN (Below.refl wr.heap.size wr) 1).trans hb); clear ho hu hb)
        | (go_simp; go_at_call 10; (with_reducible refine HO2.out.mono ?_); rintro e w6 ⟨bv, rfl, ho, hu, hb⟩; obtain ⟨ab, capb, rfl⟩ := own_slice ho; have HI6 := Lib.hid ((hb.block wr.heap.size (by show _ < (wr.alloc _).heap.size; simp)).trans (heap_alloc_new wr _)); have HB6 := Lib.hid ((below_drewN (below_alloc2 (w := wr) (.cells #[.int .i64 0, .slice none 0 0] 28)) 1).trans (hb.mono (by show wr.heap.size ≤ (wr.alloc _).heap.size; simp))); have e0 := cell_row HI6.out 0; have e1' := cell_row HI6.out 1; have g0 := frozen_row HI6.out 0; have g1 := frozen_row HI6.out 1; clear ho hu hb))
      all_goals
        first
        | (have R7 := Lib.hid (And.intro (below_row HB6.out HB6.out.size (rows2 HI6.out (.int .i64 t) (.slice ab zs.length capb)).2 (Nat.le_refl _)) (rows2 HI6.out (.int .i64 t) (.slice ab zs.length capb)).1); generalize (w6.setCell ⟨wr.heap.size, 0, none⟩ (.int .i64 t)).setCell ⟨wr.heap.size, 1, none⟩ (.slice ab zs.length capb) = w7 at R7 ⊢)
        | (have R7 := Lib.hid (And.intro (HB6.out.trans ((below_alloc2 (.cells #[.int .i64 t, .slice ab zs.length capb] 28)).mono HB6.out.size)) (heap_alloc_new w6 (.cells #[.int .i64 t, .slice ab zs.length capb] 28))); generalize w6.alloc (.cells #[.int .i64 t, .slice ab zs.length capb] 28) = w7 at R7 ⊢)
      all_goals
        have H7 := Lib.hid (HR.out.cell _ R7.out.1)
        have HX7 := Lib.hid (HXr.out.below R7.out.1)
        have i0 := cell_at0 R7.out.2
        have j0 := (H7.out.below.cell (World.block_lt_of_cell? _ _ Y0.out)).trans Y0.out
        have e6 : decide ((n : Int) < 4) = false := decide_eq_false (by omega)
        have e7 : decide (((s.all l).length : Int) - (N0 : Int) < (n : Int)) = false := decide_eq_false (by omega)
        have e8 : (t != t) = false := by simp
        have e9 : IntKind.i64.wrap (((s.all l).length : Int) - (N0 : Int)) = ((s.all l).length : Int) - (N0 : Int) := wrap_small (by omega) (by omega)
        clear c0 c1 c2 c3 c4 z0 z1 z2 z3 z4
        go_wp2_with fail
        go_quiet (fail)
        go_wp2_with fail
        go_roundw
        case rel => exact ⟨k + 1, by omega, by go_num, by rw [HNx.out]; go_num, H7.out.cell _ (below_drewN (Below.refl _ _) _), HX7.out.below (below_drewN (Below.refl _ _) _)⟩
        case measure => simp [intOf]; omega
  · have hne : ((s.join l).2 == 0) = false := by simpa using he
    generalize (s.join l).2 = er at hne ⊢
    generalize (s.join l).1 = xb at HX2 ⊢
    clear he
    obtain ⟨c0, c1, c2, c3, c4⟩ := H2.out.cells
    go_wp2_with fail
    refine (tlv_cut (s := s) (HI2.out.below H2.out.below) (by omega)).mono ?_
    rintro e wy ⟨vm, rfl, ho, hb⟩
    have HY := Lib.hid (H2.out.cell _ hb)
    clear hb c0 c1 c2 c3 c4
    obtain ⟨c0, c1, c2, c3, c4⟩ := HY.out.cells
    by_cases he : (s.cut bs).2 = 0
    · obtain ⟨q1, q2, q3, q4⟩ := cut_ok HI2.out.u8 he
      have hml := Sh.all_ge (s := s) (s.cut bs).1
      have hgb := good_bodies q2
      rw [q3] at hml
      rw [he]
      clear he
      generalize (s.cut bs).1 = m at q2 q3 q4 hml hgb ho ⊢
      have hj := tlv_join (s := s) ho.rows (by omega) (fun x hx => by have := hgb x hx; omega)
      unfold GotJoin at hj
      rw [q4] at hj
      have HJ := Lib.hid hj
      obtain ⟨am, capm, rfl⟩ := ho.slice
      clear ho q1 q2 q3 q4 hml hgb hj
      go_wp2_with fail
      refine HJ.out.mono ?_
      rintro e wz ⟨vx, rfl, hox, hux, hbx⟩
      have HZ := Lib.hid (HY.out.cell _ hbx)
      have hby := ref_bytes_q vx _ bs bs wz (Ints.of_own hox hux.wf) (HI2.out.below HZ.out.below)
      rw [decide_eq_true rfl] at hby
      have HBy := Lib.hid hby
      obtain ⟨ax9, capx9, rfl⟩ := own_slice hox
      clear hox hux hbx hby
      go_wp2_with fail
      refine HBy.out.mono ?_
      rintro e wv ⟨rfl, qq, rfl⟩
      go_wp2_with fail
      refine (sure04 _).mono ?_
      rintro e wu ⟨rfl, hb⟩
      have HB9 := Lib.hid ((below_drewN HZ.out.below qq).trans (hb.mono (by exact HZ.out.below.size)))
      clear hb
      go_wp2_with fail
      go_ret
      exact ⟨rfl, HB9.out⟩
    · have hnil := Sh.cut_err he
      have hne : ((s.cut bs).2 != 0) = true := by simpa using he
      rw [hnil] at ho
      obtain ⟨am, capm, rfl⟩ := ho.slice
      generalize (s.cut bs).2 = er at hne ⊢
      clear ho hnil he
      go_wp2_with fail
      refine (sure04 _).mono ?_
      rintro e wu ⟨rfl, hb⟩
      have HB9 := Lib.hid (HY.out.below.trans (hb.mono HY.out.below.size))
      clear hb
      go_wp2_with fail
      go_ret
      exact ⟨rfl, HB9.out⟩

theorem walk_TlvBack (v0 : Value) (s : Sh) (v1 : Value) (l : List (Int × List Int)) (v2 : Value) (bs : List Int) (w : World) (h0 : ShOk w v0 s) (h1 : RowsOf ItemR 2 w v1 l) (h2 : Ints .u8 w v2 bs) :
    Calls Try.prog 5 #[v0, v1, v2] w fun e w' => e = .returned (.bool true) ∧ Below w.heap.size w w' := by
  obtain ⟨rfl, -⟩ := h0
  cases hf : fewT l with
  | false => exact back_sure s v1 v2 l bs w h1 h2 (.inl hf)
  | true =>
    by_cases hl : 3000 < bs.length
    · exact back_sure s v1 v2 l bs w h1 h2 (.inr hl)
    · exact back_main s v1 v2 l bs w h1 h2 hf (by omega)
end Go.Proofs.Ytoobcgakainelaa
