/- The walk of the document's Encode (18). Conditions: not too many queues and properties. -/
import Derived.Test.YtoobcgakainelaaZQueF
namespace Go.Proofs.Ytoobcgakainelaa
open Go.RowKit
set_option maxRecDepth 100000
set_option maxHeartbeats 8000000

theorem putS_putL {ws xs b : List Int} (h : putS ws xs = some b) : putL ws xs = some b := by
  unfold putS at h
  split at h
  · exact h
  · cases h
theorem hdr_len {xs c : List Int} (h : putS hdrQ xs = some c) : c.length = 16 ∧ U8 c := by
  have := putS_putL h
  exact ⟨by rw [putL_len this]; rfl, putL_byte this⟩
theorem goodQ_some {n m : Int} {ps : List Prp} (h : goodQ (n, m, ps) = true) : ∃ c, ps.all goodP = true ∧ 16 + (propsB ps).length ≤ 65528 ∧ putS hdrQ [n, m, 16 + ((propsB ps).length : Int)] = some c ∧ c.length = 16 ∧ U8 c ∧ queB (n, m, ps) = c ++ propsB ps := by
  unfold goodQ at h
  simp only [Bool.and_eq_true, decide_eq_true_eq] at h
  obtain ⟨h1, h2, h3⟩ := h
  obtain ⟨c, hc⟩ := Option.isSome_iff_exists.1 h3
  obtain ⟨h4, h5⟩ := hdr_len hc
  have hc' := hc
  rw [show ((16 + (propsB ps).length : Nat) : Int) = 16 + ((propsB ps).length : Int) by omega] at hc'
  refine ⟨c, h1, h2, hc', h4, h5, ?_⟩
  unfold queB
  simp only
  rw [hc]
  rfl
theorem goodQ_none {n m : Int} {ps : List Prp} (h : goodQ (n, m, ps) = false) (h1 : ps.all goodP = true) (h2 : 16 + (propsB ps).length ≤ 65528) : (putS hdrQ [n, m, 16 + ((propsB ps).length : Int)]).isSome = false := by
  unfold goodQ at h
  simp only at h
  rw [h1, decide_eq_true h2, show ((16 + (propsB ps).length : Nat) : Int) = 16 + ((propsB ps).length : Int) by omega] at h
  simpa using h
theorem encQ_bad {l : List Que} {k : Nat} {q : Que} (hx : l[k]? = some q) (hg : goodQ q = false) : encQ l = ([], 10001) := by
  have : ¬ (l.all goodQ = true ∧ (quesB l).length ≤ 65528) := fun h => by
    have := List.all_eq_true.1 h.1 q (List.mem_of_getElem? hx)
    rw [hg] at this
    cases this
  rw [encQ, if_neg this]
theorem quesB_le {l : List Que} (h : l.all goodQ = true) : (quesB l).length ≤ 65528 * l.length := by
  induction l with
  | nil => simp [quesB]
  | cons q l ih =>
    obtain ⟨n, m, ps⟩ := q
    simp only [List.all_cons, Bool.and_eq_true] at h
    have h1 := ih h.2
    obtain ⟨c, -, h2, -, h3, -, h4⟩ := goodQ_some h.1
    have h5 : (quesB ((n, m, ps) :: l)).length = (queB (n, m, ps)).length + (quesB l).length := by simp [quesB]
    rw [h5, h4, List.length_append, List.length_cons]
    omega
theorem GotEnc.none {l : List Que} {w w' : World} (h : encQ l = ([], 10001)) (hb : Below w.heap.size w w') : GotEnc l w (.returned (.tuple #[.slice Option.none 0 0, .int .i64 10001])) w' := by
  unfold GotEnc
  rw [h]
  exact ⟨_, rfl, World.ownsRow_nil _ _ _ _, fun z hz => by simp at hz, hb⟩

/-- What Put hands back, of memory laid since. -/
def PutG (w1 : World) (c : Option (List Int)) (e : Ending) (w' : World) : Prop :=
  ∃ v', e = .returned (.tuple #[v', .bool c.isSome]) ∧ w'.ownsRow w1.heap.size 5 1 v' (c.getD []).length ((c.getD []).map (Value.int .u8)) ∧ Below w1.heap.size w1 w'
theorem put_g {w1 W : World} {u1 u2 : Value} {ws ns : List Int} (hb : Below w1.heap.size w1 W) (h1 : Ints .i64 W u1 ws) (h2 : Ints .u64 W u2 ns) : Calls Try.prog 61 #[u1, u2] W (PutG w1 (putS ws ns)) :=
  (ref_put u1 u2 ws ns W h1 h2).mono fun _ _ ⟨v, he, ho, hb'⟩ => ⟨v, he, own_base ho hb.size, hb.trans (hb'.mono hb.size)⟩
theorem ref_qencode {v : Value} {l : List Que} {w : World} (h : RowsOf QueR 3 w v l) (hf : fewL l) : Calls Try.prog 32 #[v] w (GotEnc l w) := by
  obtain ⟨a, cap, b, off, rfl, hcap, hmx, -, ha, hit⟩ := ques_open h
  unfold maxLen at hmx
  have A := Lib.hid ha
  have HIt := Lib.hid hit
  have HF := Lib.hid hf
  clear h ha hit hf
  go_enter Try.func32, Try.ntmps32
  go_wp2_with fail
  go_loopw [4, 5] (fun v i wr => ∃ k : Nat, k ≤ l.length ∧ i = .int .i64 k ∧ Hid ((l.take k).all goodQ = true) ∧ Hid (wr.ownsRow w.heap.size 5 1 v (quesB (l.take k)).length ((quesB (l.take k)).map (Value.int .u8))) ∧ Hid (U8 (quesB (l.take k))) ∧ Hid (Below w.heap.size w wr)) (fun _ i _ => l.length - (intOf i).toNat)
  case atStart => exact ⟨0, by omega, rfl, rfl, World.ownsRow_nil _ _ _ _, fun z hz => by simp [quesB] at hz, Below.refl _ _⟩
  case round =>
    obtain ⟨k, hk, rfl, HG, HO, HU, HB⟩ := hrel
    have hpl := quesB_le HG.out
    rw [List.length_take] at hpl
    have hk10 : l.length ≤ 10000 := HF.out.1
    have hpl : (quesB (l.take k)).length ≤ 655280000 := by omega
    obtain ⟨ar, capr, rfl⟩ := own_slice HO.out
    by_cases hlt : k < l.length
    · obtain rfl := A.out (by omega)
      obtain ⟨⟨n, m, ps⟩, hx⟩ : ∃ x, l[k]? = some x := ⟨_, List.getElem?_eq_getElem hlt⟩
      obtain ⟨pv, x0, x1, x2, hq, hwn, hwm⟩ := HIt.out k n m ps hx
      have hfp : fewP ps := HF.out.2 _ (List.mem_of_getElem? hx)
      have X0 : Hid (w.cell? ⟨b, off + k * 3, none⟩ = some (.int .u64 n)) := x0
      have X1 : Hid (w.cell? ⟨b, off + k * 3 + 1, none⟩ = some (.int .u64 m)) := x1
      have X2 : Hid (w.cell? ⟨b, off + k * 3 + 2, none⟩ = some pv) := x2
      have hst : ∀ wq : World, Below w.heap.size w wq → wq.cell? ⟨b, off + k * 3, none⟩ = some (.int .u64 n) ∧ wq.cell? ⟨b, off + k * 3 + 1, none⟩ = some (.int .u64 m) ∧ wq.cell? ⟨b, off + k * 3 + 2, none⟩ = some pv := fun wq hb =>
        ⟨(hb.cell (World.block_lt_of_cell? _ _ X0.out)).trans X0.out, (hb.cell (World.block_lt_of_cell? _ _ X1.out)).trans X1.out, (hb.cell (World.block_lt_of_cell? _ _ X2.out)).trans X2.out⟩
      have ST := Lib.hid hst
      have HBad : Hid (goodQ (n, m, ps) = false → encQ l = ([], 10001)) := Lib.hid (fun hg => encQ_bad hx hg)
      have HSn : Hid (quesB (l.take (k + 1)) = quesB (l.take k) ++ queB (n, m, ps)) := by show _ = _; rw [take_snoc' hx, quesB_snoc]
      have HSa : Hid ((l.take (k + 1)).all goodQ = goodQ (n, m, ps)) := by show _ = _; rw [take_snoc' hx, List.all_append, HG.out]; simp
      have HP := Lib.hid (ref_props (hq.below PrpR.lasts HB.out) hfp)
      obtain ⟨ap, capp, bp, op, rfl, -⟩ := prps_open hq
      have HW1 := Lib.hid hwn
      have HFP := Lib.hid hfp
      have HW2 := Lib.hid hwm
      obtain ⟨y0, y1, y2⟩ := ST.out wr HB.out
      clear hst x0 x1 x2 hq hwn hwm hx hfp
      have e1 : decide ((k : Int) < (l.length : Int)) = true := decide_eq_true (by omega)
      generalize hall : quesB (l.take k) = all0 at HO HU HSn hpl ⊢
      clear hall
      go_wp2_with fail
      refine HP.out.mono ?_
      rintro e w1 ⟨v1, rfl, ho, hu, hb⟩
      have HB1 := Lib.hid (HB.out.trans (hb.mono HB.out.size))
      have HO1 := Lib.hid (own_below HO.out hb)
      have HV1 := Lib.hid ho
      have HU1 := Lib.hid hu
      have hs1 := Lib.hid hb.size
      obtain ⟨a1, cap1, rfl⟩ := own_slice ho
      obtain ⟨y0, y1, y2⟩ := ST.out w1 HB1.out
      clear ho hu hb HP
      cases hA : ps.all goodP with
      | false =>
        have HN := Lib.hid (HBad.out (by unfold goodQ; simp only; rw [hA]; rfl))
        clear HSn HSa HBad hA
        rw [if_neg (by decide)]
        go_wp2_with fail
        go_ret2
        exact GotEnc.none HN.out HB1.out
      | true =>
        rw [hA, if_pos rfl] at HV1 HU1
        rw [if_pos rfl]
        by_cases hc : 16 + (propsB ps).length ≤ 65528
        · have e3 : decide ((65528 : Int) < 16 + ((propsB ps).length : Int)) = false := decide_eq_false (by omega)
          have hwr : IntKind.i64.wrap (16 + ((propsB ps).length : Int)) = 16 + ((propsB ps).length : Int) := wrap_small (by omega) (by omega)
          have hwu : IntKind.u64.wrap (16 + ((propsB ps).length : Int)) = 16 + ((propsB ps).length : Int) := wrap_u64n (by omega) (by omega)
          have hwf : ∀ z ∈ [n, m, 16 + ((propsB ps).length : Int)], (Lit.int .u64 z).wf = true := by
            intro z hz
            simp at hz
            rcases hz with rfl | rfl | rfl
            · exact HW1.out
            · exact HW2.out
            · exact wf_u64n (by omega) (by omega)
          have P1 := Lib.hid (put_g (w1 := w1) (u1 := .slice (some ⟨w1.heap.size, 0, none⟩) 4 4) (u2 := .slice (some ⟨w1.heap.size + 1, 0, none⟩) 3 3) (W := ((w1.alloc (.cells #[.int .i64 4, .int .i64 4, .int .i64 2, .int .i64 (-6)] 3)).alloc (.cells #[.int .u64 n, .int .u64 m, .int .u64 (16 + ((propsB ps).length : Int))] 76)).drew) (below_drewN ((below_alloc2 _).trans ((below_alloc2 _).mono (by simp))) 1) ((Ints.lit .i64 w1 3 [4, 4, 2, -6] _ rfl (by decide) (by decide)).alloc (.cells #[.int .u64 n, .int .u64 m, .int .u64 (16 + ((propsB ps).length : Int))] 76)) (Ints.lit .u64 (w1.alloc (.cells #[.int .i64 4, .int .i64 4, .int .i64 2, .int .i64 (-6)] 3)) 76 [n, m, 16 + ((propsB ps).length : Int)] (w1.heap.size + 1) (by simp) (by simp) hwf))
          have P2 := Lib.hid (put_g (w1 := w1) (u1 := .slice (some ⟨w1.heap.size + 1, 0, none⟩) 4 4) (u2 := .slice (some ⟨w1.heap.size, 0, none⟩) 3 3) (W := ((w1.alloc (.cells #[.int .u64 n, .int .u64 m, .int .u64 (16 + ((propsB ps).length : Int))] 76)).alloc (.cells #[.int .i64 4, .int .i64 4, .int .i64 2, .int .i64 (-6)] 3)).drew) (below_drewN ((below_alloc2 _).trans ((below_alloc2 _).mono (by simp))) 1) (Ints.lit .i64 (w1.alloc (.cells #[.int .u64 n, .int .u64 m, .int .u64 (16 + ((propsB ps).length : Int))] 76)) 3 [4, 4, 2, -6] (w1.heap.size + 1) (by simp) (by decide) (by decide)) ((Ints.lit .u64 w1 76 [n, m, 16 + ((propsB ps).length : Int)] _ rfl (by simp) hwf).alloc (.cells #[.int .i64 4, .int .i64 4, .int .i64 2, .int .i64 (-6)] 3)))
          obtain ⟨p0, p1, p2⟩ := ST.out (w1.alloc (.cells #[.int .i64 4, .int .i64 4, .int .i64 2, .int .i64 (-6)] 3)) (HB1.out.trans ((below_alloc2 _).mono HB1.out.size))
          cases hg : goodQ (n, m, ps) with
          | false =>
            have hno := goodQ_none hg hA hc
            rw [show putS [4, 4, 2, -6] [n, m, 16 + ((propsB ps).length : Int)] = none by simpa [hdrQ] using hno] at P1 P2
            have HN := Lib.hid (HBad.out hg)
            clear hno hg hA hc hwf HSn HSa HBad
            go_wp2_with fail
            go_region_law (first
              | (go_simp; go_at_call 61; (with_reducible refine P1.out.mono ?_); rintro e w5 ⟨v5, rfl, ho, hb⟩; have HB5 := Lib.hid (HB1.out.trans (hb.mono HB1.out.size)); obtain ⟨a5, cap5, rfl⟩ := own_slice ho; clear ho hb)
              | (go_simp; go_at_call 61; (with_reducible refine P2.out.mono ?_); rintro e w5 ⟨v5, rfl, ho, hb⟩; have HB5 := Lib.hid (HB1.out.trans (hb.mono HB1.out.size)); obtain ⟨a5, cap5, rfl⟩ := own_slice ho; clear ho hb))
            all_goals
              go_wp2_with fail
              go_ret2
              exact GotEnc.none HN.out HB5.out
          | true =>
            obtain ⟨c, -, -, hpc, hcl, hcu, hqb⟩ := goodQ_some hg
            rw [show putS [4, 4, 2, -6] [n, m, 16 + ((propsB ps).length : Int)] = some c from hpc] at P1 P2
            have HSn := by have := HSn.out; rw [hqb] at this; exact Lib.hid this
            have HSt : Hid ((l.take (k + 1)).all goodQ = true) := Lib.hid (HSa.out.trans hg)
            have HCU := Lib.hid hcu
            have HCL := Lib.hid hcl
            have HNE : Hid (∀ b, (Value.slice a1 (propsB ps).length cap1).ownBlock = some b → some b ≠ (Value.slice ar all0.length capr).ownBlock) := Lib.hid (fun b e e' => by have := (HV1.out.lt b e).1; have := (HO.out.lt b e'.symm).2; omega)
            clear hg hA hwf HSa HBad hpc hcu hqb hcl
            go_wp2_with fail
            go_region_law (first
              | (go_simp; go_at_call 61; (with_reducible refine P1.out.mono ?_); rintro e w5 ⟨v5, rfl, ho, hb⟩; have HB5 := Lib.hid (HB1.out.trans (hb.mono HB1.out.size)); have HO5 := Lib.hid (own_below HO1.out hb); have HV5 := Lib.hid (own_below HV1.out hb); have HC5 := Lib.hid ho; obtain ⟨a5, cap5, rfl⟩ := own_slice ho; clear ho hb)
              | (go_simp; go_at_call 61; (with_reducible refine P2.out.mono ?_); rintro e w5 ⟨v5, rfl, ho, hb⟩; have HB5 := Lib.hid (HB1.out.trans (hb.mono HB1.out.size)); have HO5 := Lib.hid (own_below HO1.out hb); have HV5 := Lib.hid (own_below HV1.out hb); have HC5 := Lib.hid ho; obtain ⟨a5, cap5, rfl⟩ := own_slice ho; clear ho hb))
            all_goals
              go_wp2_with (first
                | (at_builtin; refine wpList_append_sl rfl _ _ _ rfl w.heap.size 5 (.int .u8 0) 1 1 Try.underlying25 info_u8 rfl (by decide) (.slice ar all0.length capr) all0.length _ rfl HO5.out (.slice a5 c.length cap5) c.length (c.map (Value.int .u8)) rfl (by simp) (Sl.of_own HC5.out) (ints_one _ _) (by have := HCL.out; unfold maxLen; omega) (by have := HCL.out; omega) HB5.out.size ?_; intro v6 w6 hown hgrow hvb; have HO6 := Lib.hid hown; have HB6 := Lib.hid (own_grown HB5.out HB5.out.size HO5.out hgrow rfl); have HV6 := Lib.hid ((Ints.of_own HV5.out HU1.out.wf).grown hgrow HNE.out); obtain ⟨a6, cap6, rfl⟩ := own_slice hown; clear hown hgrow hvb)
                | (at_builtin; refine wpList_append_sl rfl _ _ _ rfl w.heap.size 5 (.int .u8 0) 1 1 Try.underlying25 info_u8 rfl (by decide) (.slice a6 (all0.length + c.length) cap6) (all0.length + c.length) _ rfl HO6.out (.slice a1 (propsB ps).length cap1) (propsB ps).length ((propsB ps).map (Value.int .u8)) rfl (by simp) HV6.out.1 (ints_one _ _) (by have := HCL.out; unfold maxLen; omega) (by have := HCL.out; omega) HB6.out.size ?_; intro v8 w8 hown hgrow hvb; have HO8 := Lib.hid hown; have HB8 := Lib.hid (own_grown HB6.out HB6.out.size HO6.out hgrow rfl); obtain ⟨a8, cap8, rfl⟩ := own_slice hown; clear hown hgrow hvb)
                | fail)
              go_roundw
              case rel => exact ⟨k + 1, by omega, by go_num, HSt.out, by rw [HSn.out, List.length_append, List.length_append, ← Nat.add_assoc, List.map_append, List.map_append, ← List.append_assoc]; exact HO8.out, by rw [HSn.out]; exact U8.append HU.out (U8.append HCU.out HU1.out), HB8.out⟩
              case measure => simp [intOf]; omega
        · have hpb : (propsB ps).length ≤ 700000000 := by have := propsB_len hA; have := HFP.out.1; omega
          have e3 : (65528 : Int) < 16 + ((propsB ps).length : Int) := by omega
          have HN := Lib.hid (HBad.out (by unfold goodQ; simp only; rw [hA, decide_eq_false hc]; rfl))
          clear HSn HSa HBad hA hc
          go_wp2_with fail
          go_ret2
          exact GotEnc.none HN.out HB1.out
    · obtain rfl : k = l.length := by omega
      rw [List.take_length] at HO HU HG
      rw [List.take_length] at hpl ⊢
      have e1 : decide ((l.length : Int) < (l.length : Int)) = false := decide_eq_false (by omega)
      generalize hall : quesB l = all0 at HO HU hpl ⊢
      have HAl := Lib.hid hall
      clear hall
      by_cases hc : all0.length ≤ 65528
      · have e3 : decide ((65528 : Int) < (all0.length : Int)) = false := decide_eq_false (by omega)
        have HE : Hid (encQ l = (all0, 0)) := by show _ = _; rw [encQ, if_pos ⟨HG.out, by rw [HAl.out]; exact hc⟩, HAl.out]
        go_wp2_with fail
        go_ret2
        unfold GotEnc
        rw [HE.out]
        exact ⟨_, rfl, HO.out, HU.out, HB.out⟩
      · have e3 : decide ((65528 : Int) < (all0.length : Int)) = true := decide_eq_true (by omega)
        have HE : Hid (encQ l = ([], 10001)) := by show _ = _; rw [encQ, if_neg (fun h => hc (by rw [HAl.out] at h; exact h.2))]
        go_wp2_with fail
        go_ret2
        exact GotEnc.none HE.out HB.out
end Go.Proofs.Ytoobcgakainelaa
