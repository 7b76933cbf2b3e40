/- The walk of QueueDecodes. Conditions: none. -/
import Derived.Test.YtoobcgakainelaaZQueW
namespace Go.Proofs.Ytoobcgakainelaa
open Go.RowKit
set_option maxRecDepth 100000
set_option maxHeartbeats 8000000

theorem qdec_sure {v0 v1 : Value} {bs more : List Int} {w : World} (h0 : Ints .u8 w v0 bs) (h1 : Ints .u8 w v1 more) (h : 1500 < bs.length ∨ 100 < more.length) :
    Calls Try.prog 6 #[v0, v1] w fun e w' => e = .returned (.bool true) ∧ Below w.heap.size w w' := by
  obtain ⟨a0, c0, b0, o0, rfl, -⟩ := h0.open
  obtain ⟨a1, c1, b1, o1, rfl, -⟩ := h1.open
  have l0 := h0.le
  have l1 := h1.le
  have h' : 1500 < bs.length ∨ (¬ 1500 < bs.length ∧ 100 < more.length) := by omega
  clear h0 h1 h
  rcases h' with h | ⟨h, h'⟩
  · have e1 : (1500 : Int) < (bs.length : Int) := by omega
    clear h
    go_enter Try.func6, Try.ntmps6
    go_wp2_with fail
    refine (sure18 _).mono ?_
    rintro e w2 ⟨rfl, hb⟩
    go_wp2_with fail
    go_ret
    exact ⟨rfl, hb⟩
  · have e1 : ¬ (1500 : Int) < (bs.length : Int) := by omega
    have e2 : (100 : Int) < (more.length : Int) := by omega
    clear h h'
    go_enter Try.func6, Try.ntmps6
    go_wp2_with fail
    refine (sure18 _).mono ?_
    rintro e w2 ⟨rfl, hb⟩
    go_wp2_with fail
    go_ret
    exact ⟨rfl, hb⟩

theorem qdec_main {v0 v1 : Value} {bs more : List Int} {w : World} (h0 : Ints .u8 w v0 bs) (h1 : Ints .u8 w v1 more) (hl0 : bs.length ≤ 1500) (hl1 : more.length ≤ 100) :
    Calls Try.prog 6 #[v0, v1] w fun e w' => e = .returned (.bool true) ∧ Below w.heap.size w w' := by
  have HI0 := Lib.hid h0
  have HI1 := Lib.hid h1
  have hd := que_decode h0 (by omega)
  unfold GotDec at hd
  obtain ⟨a0, c0, b0, o0, rfl, -⟩ := h0.open
  obtain ⟨a1, c1, b1, o1, rfl, -⟩ := h1.open
  have e1 : ¬ (1500 : Int) < (bs.length : Int) := by omega
  have e2 : ¬ (100 : Int) < (more.length : Int) := by omega
  have HD := Lib.hid hd
  clear h0 h1 hd
  go_enter Try.func6, Try.ntmps6
  go_wp2_with fail
  refine HD.out.mono ?_
  rintro e w1 ⟨v1, rfl, ho, hb⟩
  have HB1 := Lib.hid hb
  have HL1 := Lib.hid (OutQ.rows ho)
  obtain ⟨al, cl, rfl⟩ := OutG.slice ho
  have hr := ref_qdecode (HI0.out.below hb) (by omega)
  unfold GotDecR at hr
  have HR := Lib.hid hr
  clear ho hb hr HD
  go_wp2_with fail
  refine HR.out.mono ?_
  rintro e w2 ⟨v2, rfl, ho, hb⟩
  have HB2 := Lib.hid (HB1.out.trans (hb.mono HB1.out.size))
  have HL2 := Lib.hid (HL1.out.below QueR.lasts hb)
  have HM2 := Lib.hid ho
  obtain ⟨am, cm, rfl⟩ := OutG.slice ho
  clear ho hb HR
  have hsm := ref_qsame HL2.out (OutQr.rows HM2.out)
  rw [decide_eq_true rfl] at hsm
  have HS := Lib.hid hsm
  have HQ : Hid (∀ (s : St), s.rest = bs → decQ s.rest = decQ bs) := Lib.hid (fun s h => by rw [h])
  clear hsm
  generalize decQ bs = dq at HL1 HL2 HM2 HS HQ ⊢
  obtain ⟨l, er⟩ := dq
  simp only at HL1 HL2 HM2 HS HQ ⊢
  have e3 : (er != er) = false := by simp
  go_wp2_with fail
  refine HS.out.mono ?_
  rintro e w3 ⟨rfl, hb⟩
  have HB3 := Lib.hid (HB2.out.trans (hb.mono HB2.out.size))
  have HM3 := Lib.hid (OutG.below QueS.kind HM2.out hb)
  clear hb HS
  have HOm := Lib.hid (own_made0 w3 w3.heap.size 5 1 (Nat.le_refl _))
  have HBm := Lib.hid (below_alloc2 (w := w3) (.cells #[] 5))
  have HI1m := Lib.hid (HI1.out.below (HB3.out.trans (HBm.out.mono HB3.out.size)))
  have hsm : w3.heap.size ≤ (w3.alloc (.cells #[] 5)).heap.size := by simp
  go_wp2_with (first
    | (at_builtin; refine wpList_append_sl rfl _ _ _ rfl w3.heap.size 5 (.int .u8 0) 1 1 Try.underlying25 info_u8 rfl (by decide) (.slice (some ⟨w3.heap.size, 0, none⟩) 0 0) 0 _ rfl HOm.out (.slice a1 more.length c1) more.length (more.map (Value.int .u8)) rfl (by simp) HI1m.out.1 (ints_one _ _) (by unfold maxLen; omega) (by omega) hsm ?_; intro v5 w5 hown hgrow hvb; rw [Nat.zero_add, List.nil_append] at hown; have HO5 := Lib.hid hown; have HB5 := Lib.hid (own_grown HBm.out hsm HOm.out hgrow rfl); have HI05 := Lib.hid (HI0.out.below (HB3.out.trans (HB5.out.mono HB3.out.size))); obtain ⟨a5, cap5, rfl⟩ := own_slice hown; clear hown hgrow hvb)
    | (at_builtin; refine wpList_append_sl rfl _ _ _ rfl w3.heap.size 5 (.int .u8 0) 1 1 Try.underlying25 info_u8 rfl (by decide) (.slice a5 more.length cap5) more.length _ rfl HO5.out (.slice a0 bs.length c0) bs.length (bs.map (Value.int .u8)) rfl (by simp) HI05.out.1 (ints_one _ _) (by unfold maxLen; omega) (by omega) HB5.out.size ?_; intro v6 w6 hown hgrow hvb; have HO6 := Lib.hid hown; have HB6 := Lib.hid (own_grown HB5.out HB5.out.size HO5.out hgrow rfl); obtain ⟨a6, cap6, rfl⟩ := own_slice hown; clear hown hgrow hvb)
    | fail)
  have hub := HI0.out.u8
  have hum := HI1.out.u8
  have HI6 := Lib.hid (Ints.of_own (k := .u8) (zs := more ++ bs) (by rw [List.map_append]; exact HO6.out) (fun z hz => by
    rcases List.mem_append.1 hz with hz | hz
    · exact hum.wf z hz
    · exact hub.wf z hz))
  clear hub hum
  refine (cur_new HI6.out (by simp; omega) 263 269).mono ?_
  rintro e w7 ⟨p, rfl, hc, hb⟩
  have HB7 := Lib.hid (HB6.out.trans (hb.mono HB6.out.size))
  have HC7 := Lib.hid hc
  have HF := Lib.hid (Nat.le_trans HB6.out.size hc.from)
  have hby := cur_bytes hc (show (263 : Int) ≠ 0 by decide) (more.length : Int) (wf_i64 (by omega) (by omega))
  rw [bytes_fine (s := St.fresh (more ++ bs) 263 269) rfl (by simp [St.left, St.fresh])] at hby
  have HBy := Lib.hid hby
  clear hc hb hby
  go_wp2_with fail
  refine HBy.out.mono ?_
  rintro e w8 ⟨v8, rfl, ho, hu, hc, hg⟩
  have HB8 := Lib.hid (HB7.out.grown hg HB7.out.size (fun k e => by injection e with e; have := HF.out; omega))
  obtain ⟨a8, cap8, rfl⟩ := own_slice ho
  have hrest : ({ St.fresh (more ++ bs) 263 269 with pos := (St.fresh (more ++ bs) 263 269).pos + more.length } : St).rest = bs := by
    show (more ++ bs).drop (0 + more.length) = bs
    rw [Nat.zero_add, List.drop_left]
  have htk := que_Take hc hg.size rfl (show (263 : Int) ≠ 0 by decide)
  have hdq := HQ.out _ hrest
  unfold GotTakes at htk
  rw [hdq] at htk
  have HTk := Lib.hid htk
  clear ho hu hc hg htk hdq hrest
  go_wp2_with fail
  refine HTk.out.mono ?_
  rintro e w9 ⟨v9, s9, rfl, ho, hc, hg, her, hlf⟩
  have HB9 := Lib.hid (HB8.out.grown hg HB8.out.size (fun k e => by injection e with e; have := HF.out; omega))
  have HBw9 := Lib.hid (HB3.out.trans (HB9.out.mono HB3.out.size))
  have HM9 := Lib.hid (OutG.below QueS.kind HM3.out HB9.out)
  have HK9 := Lib.hid ho
  have hsm := ref_qsame (OutQ.rows ho) (OutQr.rows HM9.out)
  obtain ⟨ak, ck, rfl⟩ := OutG.slice ho
  have HC9 := Lib.hid hc
  rw [decide_eq_true rfl] at hsm
  change s9.er = er at her
  have HS := Lib.hid hsm
  have HEr := Lib.hid her
  have HLf := Lib.hid hlf
  clear ho hc hg her hlf hsm HTk
  go_wp2_with fail
  refine HS.out.mono ?_
  rintro e w10 ⟨rfl, hb⟩
  have hce := cur_err (HC9.out.below hb)
  rw [HEr.out] at hce
  have HCe := Lib.hid hce
  have HCl := Lib.hid (cur_left (HC9.out.below hb))
  have HB10 := Lib.hid (HBw9.out.trans (hb.mono HBw9.out.size))
  clear hb hce
  go_wp2_with fail
  refine HCe.out.mono ?_
  rintro e w11 ⟨rfl, rfl⟩
  by_cases he : er = 0
  · subst he
    have hl0 := HLf.out HEr.out
    rw [hl0] at HCl
    clear hl0
    go_wp2_with fail
    refine HCl.out.mono ?_
    rintro e w12 ⟨rfl, q, rfl⟩
    go_wp2_with fail
    refine (sure18 _).mono ?_
    rintro e w13 ⟨rfl, hb⟩
    go_wp2_with fail
    go_ret
    exact ⟨by simp, below_drewN HB10.out q |>.trans (hb.mono HB10.out.size)⟩
  · have e5 : (er != 0) = true := by simpa using he
    clear he
    go_wp2_with fail
    refine (sure18 _).mono ?_
    rintro e w13 ⟨rfl, hb⟩
    go_wp2_with fail
    go_ret
    exact ⟨by simp, HB10.out.trans (hb.mono HB10.out.size)⟩

theorem walk_QueueDecodes (v0 : Value) (bs : List Int) (v1 : Value) (more : List Int) (w : World) (h0 : Ints .u8 w v0 bs) (h1 : Ints .u8 w v1 more) :
    Calls Try.prog 6 #[v0, v1] w fun e w' => e = .returned (.bool true) ∧ Below w.heap.size w w' := by
  by_cases h : 1500 < bs.length ∨ 100 < more.length
  · exact qdec_sure h0 h1 h
  · exact qdec_main h0 h1 (by omega) (by omega)
end Go.Proofs.Ytoobcgakainelaa
