/- The walk of QueueBack. Conditions: none. -/
import Derived.Test.YtoobcgakainelaaZQueBackP
import Derived.Test.YtoobcgakainelaaZQueX
import Derived.Test.YtoobcgakainelaaZQueV
import Derived.Test.YtoobcgakainelaaZQueW
import Derived.StillTailTactics
namespace Go.Proofs.Ytoobcgakainelaa
open Go.RowKit
set_option maxRecDepth 100000
set_option maxHeartbeats 16000000

theorem rows_okQ {w : World} {v : Value} {l : List Que} (h : RowsOf QueR 3 w v l) : ∀ q ∈ l, okQue q := by
  obtain ⟨a, cap, b, off, -, -, -, -, -, hit⟩ := h
  intro q hq
  obtain ⟨i, hi⟩ := List.getElem?_of_mem hq
  obtain ⟨c, -, ⟨pv, -, hp, h1, h2⟩, -⟩ := hit i q hi
  refine ⟨wf_u64_bd h1, wf_u64_bd h2, fun p hpm => ?_⟩
  obtain ⟨a', cap', b', off', -, -, -, -, -, hit'⟩ := hp
  obtain ⟨j, hj⟩ := List.getElem?_of_mem hpm
  obtain ⟨c', -, ⟨dv, -, -, -, h3⟩, -⟩ := hit' j p hj
  exact wf_u64_bd h3
theorem thing_ge (x : Int × List Int) : 4 + x.2.length ≤ (shQ.thing x).length := by rw [Sh.thing_len]; omega
theorem propsB_few {ps : List Prp} (h : ps.all goodP = true) : ps.length ≤ (propsB ps).length ∧ ∀ p ∈ ps, p.2.2.length ≤ (propsB ps).length := by
  induction ps with
  | nil => exact ⟨by simp, fun p hp => by simp at hp⟩
  | cons p ps ih =>
    simp only [List.all_cons, Bool.and_eq_true] at h
    obtain ⟨b, hb, hi, -⟩ := goodP_item h.1
    obtain ⟨h1, h2⟩ := ih h.2
    have he : (propsB (p :: ps)).length = (shQ.thing (p.1, b)).length + (propsB ps).length := by simp [propsB, Sh.all, hi]
    have ht := thing_ge (p.1, b)
    have hl := bodyQ_len hb
    simp only at ht
    refine ⟨by rw [List.length_cons, he]; omega, fun q hq => ?_⟩
    rcases List.mem_cons.1 hq with rfl | hq
    · omega
    · have := h2 q hq; omega
theorem quesB_few {l : List Que} (h : l.all goodQ = true) : l.length ≤ (quesB l).length ∧ ∀ q ∈ l, q.2.2.length ≤ (quesB l).length ∧ ∀ p ∈ q.2.2, p.2.2.length ≤ (quesB l).length := by
  induction l with
  | nil => exact ⟨by simp, fun q hq => by simp at hq⟩
  | cons q l ih =>
    simp only [List.all_cons, Bool.and_eq_true] at h
    obtain ⟨n, m, ps⟩ := q
    obtain ⟨c, hA, -, -, hcl, -, hqb⟩ := goodQ_some h.1
    obtain ⟨h1, h2⟩ := ih h.2
    obtain ⟨k1, k2⟩ := propsB_few hA
    have he : (quesB ((n, m, ps) :: l)).length = 16 + (propsB ps).length + (quesB l).length := by simp [quesB, hqb, hcl]; omega
    refine ⟨by rw [List.length_cons, he]; omega, fun q hq => ?_⟩
    rcases List.mem_cons.1 hq with rfl | hq
    · exact ⟨by simp only; omega, fun p hp => by have := k2 p hp; omega⟩
    · obtain ⟨g1, g2⟩ := h2 q hq
      exact ⟨by omega, fun p hp => by have := g2 p hp; omega⟩
theorem few_dec {bs : List Int} (hu : U8 bs) (hl : bs.length ≤ 1500) (h : (decQ bs).2 = 0) : fewL (decQ bs).1 := by
  have he := enc_dec hu h
  generalize (decQ bs).1 = l at he
  unfold encQ at he
  split at he
  · rename_i hc
    injection he with he _
    obtain ⟨h1, h2⟩ := quesB_few hc.1
    rw [he] at h1 h2
    exact ⟨by omega, fun q hq => ⟨by have := (h2 q hq).1; omega, fun p hp => by have := (h2 q hq).2 p hp; omega⟩⟩
  · injection he with _ he; cases he

theorem encQ_cases' (l : List Que) : ((encQ l).2 = 0 ∧ (encQ l).1.length ≤ 65528) ∨ (encQ l).2 = 10001 := by
  unfold encQ
  split
  · rename_i h; exact .inl ⟨rfl, h.2⟩
  · exact .inr rfl
theorem qback_sure {v0 v1 v2 : Value} {l m : List Que} {bs : List Int} {w : World} (h0 : RowsOf QueR 3 w v0 l) (h1 : RowsOf QueR 3 w v1 m) (h2 : Ints .u8 w v2 bs) (h : fewQ l = false ∨ fewQ m = false ∨ 1500 < bs.length) :
    Calls Try.prog 8 #[v0, v1, v2] w fun e w' => e = .returned (.bool true) ∧ Below w.heap.size w w' := by
  have hf := ref_few h0
  have hf2 := ref_few h1
  obtain ⟨a0, c0, b0, o0, rfl, -⟩ := ques_open h0
  obtain ⟨a1, c1, b1, o1, rfl, -⟩ := ques_open h1
  obtain ⟨a2, c2, b2, o2, rfl, -⟩ := h2.open
  have l2 := h2.le
  clear h0 h1 h2
  cases hq : fewQ l with
  | false =>
    rw [hq] at hf
    have HF := Lib.hid hf
    clear hf hf2 hq h
    go_enter Try.func8, Try.ntmps8
    go_wp2_with fail
    refine HF.out.mono ?_
    rintro e w1 ⟨rfl, rfl⟩
    go_wp2_with fail
    refine (sure18 _).mono ?_
    rintro e w2 ⟨rfl, hb⟩
    go_wp2_with fail
    go_ret
    exact ⟨rfl, hb⟩
  | true =>
    cases hq2 : fewQ m with
    | false =>
      rw [hq] at hf
      rw [hq2] at hf2
      have HF := Lib.hid hf
      have HF2 := Lib.hid hf2
      clear hf hf2 hq hq2 h
      go_enter Try.func8, Try.ntmps8
      go_wp2_with fail
      refine HF.out.mono ?_
      rintro e w1 ⟨rfl, rfl⟩
      go_wp2_with fail
      refine HF2.out.mono ?_
      rintro e w1 ⟨rfl, rfl⟩
      go_wp2_with fail
      refine (sure18 _).mono ?_
      rintro e w2 ⟨rfl, hb⟩
      go_wp2_with fail
      go_ret
      exact ⟨rfl, hb⟩
    | true =>
      have e2 : (1500 : Int) < (bs.length : Int) := by
        rw [hq, hq2] at h
        rcases h with h | h | h
        · cases h
        · cases h
        · omega
      rw [hq] at hf
      rw [hq2] at hf2
      have HF := Lib.hid hf
      have HF2 := Lib.hid hf2
      clear hf hf2 hq hq2 h
      go_enter Try.func8, Try.ntmps8
      go_wp2_with fail
      refine HF.out.mono ?_
      rintro e w1 ⟨rfl, rfl⟩
      go_wp2_with fail
      refine HF2.out.mono ?_
      rintro e w1 ⟨rfl, rfl⟩
      go_wp2_with fail
      refine (sure18 _).mono ?_
      rintro e w2 ⟨rfl, hb⟩
      go_wp2_with fail
      go_ret
      exact ⟨rfl, hb⟩

theorem qback_main {v0 v1 v2 : Value} {l m : List Que} {bs : List Int} {w : World} (h0 : RowsOf QueR 3 w v0 l) (h1 : RowsOf QueR 3 w v1 m) (h2 : Ints .u8 w v2 bs) (hq : fewQ l = true) (hq2 : fewQ m = true) (hl : bs.length ≤ 1500) :
    Calls Try.prog 8 #[v0, v1, v2] w fun e w' => e = .returned (.bool true) ∧ Below w.heap.size w w' := by
  have hf := ref_few h0
  have hf2 := ref_few h1
  rw [hq] at hf
  rw [hq2] at hf2
  have HF := Lib.hid hf
  have HF2 := Lib.hid hf2
  have HL := Lib.hid (fewQ_l hq)
  have H0 := Lib.hid h0
  have H1 := Lib.hid h1
  have H2 := Lib.hid h2
  have HOk := rows_okQ h0
  have hen := que_encode h0 HL.out
  unfold GotEnc at hen
  have HDe := Lib.hid (dec_enc HOk)
  have HDl := Lib.hid (dec_less HOk)
  obtain ⟨a0, c0, b0, o0, rfl, hcap0, hmx0, -⟩ := ques_open h0
  obtain ⟨a1, c1, b1, o1, rfl, -⟩ := ques_open h1
  obtain ⟨a2, c2, b2, o2, rfl, -⟩ := h2.open
  have e2 : decide ((1500 : Int) < (bs.length : Int)) = false := decide_eq_false (by omega)
  have hl20 : l.length ≤ 10000 := HL.out.1
  have hcs : (encQ l).2 ≠ 0 ∨ ((encQ l).2 = 0 ∧ (encQ l).1.length = 0) ∨ ((encQ l).2 = 0 ∧ 0 < (encQ l).1.length ∧ (encQ l).1.length ≤ 65528) := by
    rcases encQ_cases' l with ⟨h, h'⟩ | h
    · by_cases h0 : (encQ l).1.length = 0
      · exact .inr (.inl ⟨h, h0⟩)
      · exact .inr (.inr ⟨h, by omega, h'⟩)
    · exact .inl (by rw [h]; decide)
  generalize encQ l = en at hen HDe HDl hcs
  obtain ⟨x, er⟩ := en
  simp only at hen HDe HDl hcs
  have HEn := Lib.hid hen
  clear h0 h1 h2 hf hf2 hq hq2 hen HOk
  rcases hcs with hne | ⟨rfl, hx0⟩ | ⟨rfl, hx0, hxl⟩
  case' inl =>
    have e3 : (er == 0) = false := by simpa using hne
    clear hne HDe HDl
    go_enter Try.func8, Try.ntmps8
    go_wp2_with fail
    refine HF.out.mono ?_
    rintro e w1 ⟨rfl, rfl⟩
    go_wp2_with fail
    refine HF2.out.mono ?_
    rintro e w1 ⟨rfl, rfl⟩
    go_wp2_with fail
    refine HEn.out.mono ?_
    rintro e wa ⟨vx, rfl, ho, hu, hb⟩
    have HBa := Lib.hid hb
    obtain ⟨ax, cx, rfl⟩ := own_slice ho
    clear ho hu hb
    go_wp2_with fail
  case' inr.inl =>
    have hde := HDe.out rfl
    obtain rfl := List.eq_nil_of_length_eq_zero hx0
    clear HDe HDl hx0
    go_enter Try.func8, Try.ntmps8
    go_wp2_with fail
    refine HF.out.mono ?_
    rintro e w1 ⟨rfl, rfl⟩
    go_wp2_with fail
    refine HF2.out.mono ?_
    rintro e w1 ⟨rfl, rfl⟩
    go_wp2_with fail
    refine HEn.out.mono ?_
    rintro e w1 ⟨vx, rfl, ho, hu, hb⟩
    have HB1 := Lib.hid hb
    have hd := que_decode (Ints.of_own ho hu.wf) (by simp)
    unfold GotDec at hd
    rw [hde] at hd
    have HD := Lib.hid hd
    obtain ⟨ax, cx, rfl⟩ := own_slice ho
    clear ho hu hb hd hde
    go_wp2_with fail
    refine HD.out.mono ?_
    rintro e w2 ⟨vk, rfl, ho, hb⟩
    have HB2 := Lib.hid (HB1.out.trans (hb.mono HB1.out.size))
    have hsm := ref_qsame (OutQ.rows ho) (H0.out.below QueR.lasts HB2.out)
    rw [decide_eq_true rfl] at hsm
    have HS := Lib.hid hsm
    obtain ⟨ak, ck, rfl⟩ := OutG.slice ho
    clear ho hb hsm HD
    go_wp2_with fail
    refine HS.out.mono ?_
    rintro e wa ⟨rfl, hb⟩
    have HBa := Lib.hid (HB2.out.trans (hb.mono HB2.out.size))
    clear hb HS
    go_wp2_with fail
  case' inr.inr =>
    have hde := HDe.out rfl
    have hdl := HDl.out rfl hx0
    have e3 : (0 : Int) < (x.length : Int) := by omega
    clear HDe HDl
    go_enter Try.func8, Try.ntmps8
    go_wp2_with fail
    refine HF.out.mono ?_
    rintro e w1 ⟨rfl, rfl⟩
    go_wp2_with fail
    refine HF2.out.mono ?_
    rintro e w1 ⟨rfl, rfl⟩
    go_wp2_with fail
    refine HEn.out.mono ?_
    rintro e w1 ⟨vx, rfl, ho, hu, hb⟩
    have HB1 := Lib.hid hb
    have HX1 := Lib.hid (Ints.of_own ho hu.wf)
    have hd := que_decode HX1.out (by omega)
    unfold GotDec at hd
    rw [hde] at hd
    have HD := Lib.hid hd
    obtain ⟨ax, cx, rfl⟩ := own_slice ho
    clear ho hu hb hd hde
    go_wp2_with fail
    refine HD.out.mono ?_
    rintro e w2 ⟨vk, rfl, ho, hb⟩
    have HB2 := Lib.hid (HB1.out.trans (hb.mono HB1.out.size))
    have HX2 := Lib.hid (HX1.out.below hb)
    have hsm := ref_qsame (OutQ.rows ho) (H0.out.below QueR.lasts HB2.out)
    rw [decide_eq_true rfl] at hsm
    have HS := Lib.hid hsm
    obtain ⟨ak, ck, rfl⟩ := OutG.slice ho
    clear ho hb hsm HD
    go_wp2_with fail
    refine HS.out.mono ?_
    rintro e w3 ⟨rfl, hb⟩
    have HB3 := Lib.hid (HB2.out.trans (hb.mono HB2.out.size))
    have HX3 := Lib.hid (HX2.out.below hb)
    obtain ⟨A, hsl, hcut⟩ := slice_upto Try.underlying25 info_u8 HX3.out ((x.length : Int) - 1) (x.length - 1) (by omega) (by omega)
    have hd := que_decode hcut (by rw [List.length_take]; omega)
    unfold GotDec at hd
    generalize decQ (x.take (x.length - 1)) = dq at hd hdl
    obtain ⟨k2, e4⟩ := dq
    simp only at hd hdl
    have HD := Lib.hid hd
    have e5 : (e4 == 0) = false := by simpa using hdl
    clear hb hd hcut HS hdl
    go_wp2_with fail
    refine HD.out.mono ?_
    rintro e wa ⟨vk2, rfl, ho, hb⟩
    have HBa := Lib.hid (HB3.out.trans (hb.mono HB3.out.size))
    obtain ⟨ak2, ck2, rfl⟩ := OutG.slice ho
    clear ho hb HD hsl
    go_wp2_with fail
  all_goals
    have hcp := que_copy (H0.out.below QueR.lasts HBa.out) HL.out
    unfold GotCopy at hcp
    refine hcp.mono ?_
    clear hcp
    rintro e wb ⟨vc, rfl, ho, hb⟩
    have HBb := Lib.hid (HBa.out.trans (hb.mono HBa.out.size))
    have HCb := Lib.hid ho
    have hsm := ref_qsame (OutQ.rows ho) (H0.out.below QueR.lasts HBb.out)
    rw [decide_eq_true rfl] at hsm
    obtain ⟨ac, cc, rfl⟩ := OutG.slice ho
    have HS := Lib.hid hsm
    clear ho hb hsm
    go_wp2_with fail
    refine HS.out.mono ?_
    clear HS
    rintro e wc ⟨rfl, hb⟩
    have HBc := Lib.hid (HBb.out.trans (hb.mono HBb.out.size))
    have HCc := Lib.hid (OutG.below QueO.kind HCb.out hb)
    have hsm := que_same (OutQ.rows HCc.out) (H0.out.below QueR.lasts HBc.out)
    rw [decide_eq_true rfl] at hsm
    unfold GotEq at hsm
    have HS := Lib.hid hsm
    clear hb hsm HCb
    go_wp2_with fail
    refine HS.out.mono ?_
    clear HS
    rintro e wd ⟨rfl, hb⟩
    have HBd := Lib.hid (HBc.out.trans (hb.mono HBc.out.size))
    have HCd := Lib.hid (OutG.below QueO.kind HCc.out hb)
    have hsm := que_same (H0.out.below QueR.lasts HBd.out) (H1.out.below QueR.lasts HBd.out)
    have hrm := fun (W : World) (hW : Below w.heap.size w W) => ref_qsame (H0.out.below QueR.lasts hW) (H1.out.below QueR.lasts hW)
    unfold GotEq at hsm
    generalize decide (l = m) = bq at hsm hrm
    have HS := Lib.hid hsm
    have HRm := Lib.hid hrm
    have e6 : (bq != bq) = false := by simp
    clear hb hsm hrm HCc
    go_wp2_with fail
    refine HS.out.mono ?_
    clear HS
    rintro e we ⟨rfl, hb⟩
    have HBe := Lib.hid (HBd.out.trans (hb.mono HBd.out.size))
    have HCe := Lib.hid (OutG.below QueO.kind HCd.out hb)
    clear hb HCd
    go_wp2_with fail
    refine (HRm.out we HBe.out).mono ?_
    clear HRm
    rintro e wf ⟨rfl, hb⟩
    have HBf := Lib.hid (HBe.out.trans (hb.mono HBe.out.size))
    have HCf := Lib.hid (OutG.below QueO.kind HCe.out hb)
    have hcp := que_copy (H0.out.below QueR.lasts HBf.out) HL.out
    unfold GotCopy at hcp
    have HCp := Lib.hid hcp
    clear hb HCe hcp
    go_wp2_with fail
    refine HCp.out.mono ?_
    clear HCp
    rintro e wg ⟨vd, rfl, ho, hb⟩
    have HD := Lib.hid ho
    have HBfg := Lib.hid hb
    obtain ⟨ad, cd, rfl⟩ := OutG.slice ho
    clear ho hb
    go_wp2_with fail
    go_loopw [15] (fun i wr => ∃ k : Nat, k ≤ l.length ∧ i = .int .i64 k ∧ Hid (Sim wa.heap.size wf.heap.size wg wr)) (fun i _ => l.length - (intOf i).toNat)
    case atStart => exact ⟨0, by omega, rfl, Sim.refl _ _ _⟩
    case round =>
      obtain ⟨wi, rfl⟩ : ∃ wi : World, wi = wr := ⟨_, rfl⟩
      obtain ⟨k, hk, rfl, HSi⟩ := hrel
      by_cases hlt : k < l.length
      · obtain ⟨⟨n, mm, ps⟩, hx⟩ : ∃ x, l[k]? = some x := ⟨_, List.getElem?_eq_getElem hlt⟩
        obtain ⟨g, cc', e7, hgb, hgf, hgc⟩ := ques_own HCf.out (by omega)
        injection e7 with e7 _ e8
        subst e7 e8
        obtain ⟨pv, x0, x2, hop⟩ := hgc k n mm ps hx
        have hfp : fewP ps := HL.out.2 _ (List.mem_of_getElem? hx)
        have hp4 : ps.length ≤ 10000 := hfp.1
        have x0 := (HBfg.out.cell (World.block_lt_of_cell? _ _ x0)).trans x0
        have x2 := (HBfg.out.cell (World.block_lt_of_cell? _ _ x2)).trans x2
        obtain ⟨ap, cp, rfl⟩ := OutG.slice hop
        have HX0 := Lib.hid x0
        have HX2 := Lib.hid x2
        have HZ0 : Hid (∀ o, wg.frozen? ⟨g, o, none⟩ = false) := Lib.hid (fun o => (HBfg.out.frozen (p := ⟨g, o, none⟩) hgb.2).trans (hgf o))
        have HOp := Lib.hid hop
        have HFp := Lib.hid hfp
        have HGb := Lib.hid hgb
        obtain ⟨y0, hy0⟩ := HSi.out.num _ _ _ HX0.out
        have hy2 := HSi.out.sl HX2.out
        have hz0 : wi.frozen? ⟨g, k * 3, none⟩ = false := (HSi.out.frz _).trans (HZ0.out _)
        have e9 : decide ((k : Int) < (l.length : Int)) = true := decide_eq_true (by omega)
        have HSi2 := Lib.hid (HSi.out.store HGb.out HX0.out (IntKind.u64.wrap (y0 + 1)))
        clear hx x0 x2 hop hfp hgb hgf hgc
        go_wp2_with fail
        go_loopw [16] (fun i wr => ∃ j : Nat, j ≤ ps.length ∧ i = .int .i64 j ∧ Hid (Sim wa.heap.size wf.heap.size wg wr)) (fun i _ => ps.length - (intOf i).toNat)
        case atStart => exact ⟨0, by omega, rfl, HSi2.out⟩
        case round =>
          obtain ⟨wj, rfl⟩ : ∃ wj : World, wj = wr := ⟨_, rfl⟩
          obtain ⟨j, hj, rfl, HSj⟩ := hrel
          have hy2 := HSj.out.sl HX2.out
          by_cases hjt : j < ps.length
          · obtain ⟨⟨t, z, ds⟩, hy⟩ : ∃ x, ps[j]? = some x := ⟨_, List.getElem?_eq_getElem hjt⟩
            obtain ⟨gp, cp', e10, hpb, hpf, hpc⟩ := props_own' HOp.out (by omega)
            injection e10 with e10 _ e11
            subst e10 e11
            obtain ⟨dv, p0, p2, hod⟩ := hpc j t z ds hy
            have hdl : ds.length ≤ 10000 := HFp.out.2 (t, z, ds) (List.mem_of_getElem? hy)
            have p0 := (HBfg.out.cell (World.block_lt_of_cell? _ _ p0)).trans p0
            have p2 := (HBfg.out.cell (World.block_lt_of_cell? _ _ p2)).trans p2
            obtain ⟨adv, cdv, rfl⟩ := own_slice hod
            have HP0 := Lib.hid p0
            have HP2 := Lib.hid p2
            have HZp : Hid (∀ o, wg.frozen? ⟨gp, o, none⟩ = false) := Lib.hid (fun o => (HBfg.out.frozen (p := ⟨gp, o, none⟩) hpb.2).trans (hpf o))
            have HOd := Lib.hid hod
            have HPb := Lib.hid hpb
            obtain ⟨u0, hu0⟩ := HSj.out.num _ _ _ HP0.out
            have hu2 := HSj.out.sl HP2.out
            have hzp : wj.frozen? ⟨gp, j * 3, none⟩ = false := (HSj.out.frz _).trans (HZp.out _)
            have e12 : decide ((j : Int) < (ps.length : Int)) = true := decide_eq_true (by omega)
            have HSj2 := Lib.hid (HSj.out.store HPb.out HP0.out (-1))
            clear hy p0 p2 hod hpb hpf hpc
            go_wp2_with fail
            go_loopw [17] (fun i wr => ∃ q : Nat, q ≤ ds.length ∧ i = .int .i64 q ∧ Hid (Sim wa.heap.size wf.heap.size wg wr)) (fun i _ => ds.length - (intOf i).toNat)
            case atStart => exact ⟨0, by omega, rfl, HSj2.out⟩
            case round =>
              obtain ⟨wq, rfl⟩ : ∃ wq : World, wq = wr := ⟨_, rfl⟩
              obtain ⟨q, hq, rfl, HSq⟩ := hrel
              have hy2 := HSq.out.sl HX2.out
              have hu2 := HSq.out.sl HP2.out
              by_cases hqt : q < ds.length
              · obtain ⟨gd, cd', e13, hdb, hdf, hdc⟩ := bytes_own HOd.out (by omega)
                injection e13 with e13 _ e14
                subst e13 e14
                obtain ⟨b0', d0⟩ := hdc q hqt
                have d0 := (HBfg.out.cell (World.block_lt_of_cell? _ _ d0)).trans d0
                obtain ⟨b1', hb1⟩ := HSq.out.num _ _ _ d0
                have hzd : wq.frozen? ⟨gd, q, none⟩ = false := (HSq.out.frz _).trans ((HBfg.out.frozen (p := ⟨gd, q, none⟩) hdb.2).trans (hdf q))
                have HSq2 := Lib.hid ((HSq.out.store hdb d0 ((b1' + 1) % 256)).drew 1)
                have e15 : decide ((q : Int) < (ds.length : Int)) = true := decide_eq_true (by omega)
                clear d0 hdb hdf hdc
                go_wp2_with fail
                go_still_tail 24, (by kernel_rfl)
                go_wp2_with fail
                go_roundw
                case rel => exact ⟨q + 1, by omega, by go_num, HSq2.out⟩
                case measure => simp [intOf]; omega
              · obtain rfl : q = ds.length := by omega
                have e15 : decide ((ds.length : Int) < (ds.length : Int)) = false := decide_eq_false (by omega)
                go_wp2_with fail
                go_roundw
                case rel => exact ⟨j + 1, by omega, by go_num, HSq.out⟩
                case measure => simp [intOf]; omega
          · obtain rfl : j = ps.length := by omega
            have e12 : decide ((ps.length : Int) < (ps.length : Int)) = false := decide_eq_false (by omega)
            go_wp2_with fail
            go_roundw
            case rel => exact ⟨k + 1, by omega, by go_num, HSj.out⟩
            case measure => simp [intOf]; omega
      · obtain rfl : k = l.length := by omega
        have e9 : decide ((l.length : Int) < (l.length : Int)) = false := decide_eq_false (by omega)
        have HBg := Lib.hid (HBf.out.trans (HBfg.out.mono HBf.out.size))
        have HBi := Lib.hid (HBg.out.trans (HSi.out.below.mono HBa.out.size))
        have hsm := ref_qsame (OutQ.rows (OutG.agree QueO.kind HD.out HSi.out.agree)) (H0.out.below QueR.lasts HBi.out)
        rw [decide_eq_true rfl] at hsm
        have HS := Lib.hid hsm
        clear hsm
        go_wp2_with fail
        refine HS.out.mono ?_
        clear HS
        rintro e wk ⟨rfl, hb⟩
        have HBk := Lib.hid (HBi.out.trans (hb.mono HBi.out.size))
        have hde := que_decode (H2.out.below HBk.out) (by omega)
        have hfw := few_dec H2.out.u8 hl
        have hed := enc_dec H2.out.u8
        have her := dec_err (bs := bs)
        unfold GotDec at hde
        generalize decQ bs = dq at hde hfw hed her
        obtain ⟨kl, ke⟩ := dq
        simp only at hde hfw hed her
        have HDe := Lib.hid hde
        clear hb hde
        by_cases hke : ke = 0
        · subst hke
          have hfw := hfw rfl
          have hed := hed rfl
          have HFw := Lib.hid hfw
          have HEd := Lib.hid hed
          clear hfw hed her
          go_wp2_with fail
          refine HDe.out.mono ?_
          rintro e wl ⟨vk, rfl, ho, hb⟩
          have HBl := Lib.hid (HBk.out.trans (hb.mono HBk.out.size))
          have HKl := Lib.hid (OutQ.rows ho)
          obtain ⟨akl, ckl, rfl⟩ := OutG.slice ho
          have hen := que_encode HKl.out HFw.out
          have hrt := fun (W : World) (hW : Below wl.heap.size wl W) => que_right (HKl.out.below QueR.lasts hW) HFw.out
          unfold GotEnc at hen
          rw [HEd.out] at hen hrt
          have HEn := Lib.hid hen
          have HRt := Lib.hid hrt
          clear ho hb hen hrt HDe
          go_wp2_with fail
          refine HEn.out.mono ?_
          clear HEn
          rintro e wm ⟨vz, rfl, ho, hu, hb⟩
          have HBm := Lib.hid (HBl.out.trans (hb.mono HBl.out.size))
          have HZm := Lib.hid (Ints.of_own ho hu.wf)
          obtain ⟨az, cz, rfl⟩ := own_slice ho
          have HRt' := Lib.hid (HRt.out _ hb)
          clear ho hu hb HRt
          go_wp2_with fail
          refine HRt'.out.mono ?_
          clear HRt'
          rintro e wn ⟨rfl, hb⟩
          have HBn := Lib.hid (HBm.out.trans (hb.mono HBm.out.size))
          have hby := ref_bytes _ _ _ _ _ (HZm.out.below hb) (H2.out.below HBn.out)
          rw [decide_eq_true rfl] at hby
          have HBy := Lib.hid hby
          clear hb hby
          go_wp2_with fail
          refine HBy.out.mono ?_
          rintro e wo ⟨rfl, hb⟩
          have HBo := Lib.hid (HBn.out.trans (hb.mono HBn.out.size))
          clear hb HBy
          go_wp2_with fail
          refine (sure18 _).mono ?_
          rintro e wp ⟨rfl, hb⟩
          go_wp2_with fail
          go_ret
          exact ⟨by simp, HBo.out.trans (hb.mono HBo.out.size)⟩
        · have her := her hke
          subst her
          have e16 : (ke != 0) = true := by simpa using hke
          clear hfw hed hke
          go_wp2_with fail
          refine HDe.out.mono ?_
          rintro e wl ⟨vk, rfl, ho, hb⟩
          have HBl := Lib.hid (HBk.out.trans (hb.mono HBk.out.size))
          obtain ⟨akl, ckl, rfl⟩ := OutG.slice ho
          clear ho hb HDe
          go_wp2_with fail
          refine (sure18 _).mono ?_
          rintro e wp ⟨rfl, hb⟩
          go_wp2_with fail
          go_ret
          exact ⟨by simp, HBl.out.trans (hb.mono HBl.out.size)⟩

theorem walk_QueueBack (v0 : Value) (l : List Que) (v1 : Value) (m : List Que) (v2 : Value) (bs : List Int) (w : World) (h0 : RowsOf QueR 3 w v0 l) (h1 : RowsOf QueR 3 w v1 m) (h2 : Ints .u8 w v2 bs) :
    Calls Try.prog 8 #[v0, v1, v2] w fun e w' => e = .returned (.bool true) ∧ Below w.heap.size w w' := by
  cases hq : fewQ l with
  | false => exact qback_sure h0 h1 h2 (.inl hq)
  | true =>
    cases hq2 : fewQ m with
    | false => exact qback_sure h0 h1 h2 (.inr (.inl hq2))
    | true =>
      by_cases h : 1500 < bs.length
      · exact qback_sure h0 h1 h2 (.inr (.inr h))
      · exact qback_main h0 h1 h2 hq hq2 (by omega)
end Go.Proofs.Ytoobcgakainelaa
