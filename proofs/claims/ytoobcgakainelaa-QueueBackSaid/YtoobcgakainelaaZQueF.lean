/- The walk of the document's props (18). Conditions: not too many properties. -/
import Derived.Test.YtoobcgakainelaaZQueE
namespace Go.Proofs.Ytoobcgakainelaa
open Go.RowKit
set_option maxRecDepth 100000
set_option maxHeartbeats 20000000

theorem goodP_none {t a : Int} {bs : List Int} (h : goodP (t, a, bs) = false) (hl : bs.length ≤ 10000) :
    (rowsQ t).isSome = false ∨ (putS ((rowsQ t).getD []) [a]).isSome = false ∨ ((t != 65535) = true ∧ 0 < bs.length) ∨ bs.length % 8 ≠ 0 := by
  cases hr : rowsQ t with
  | none => exact .inl rfl
  | some ws =>
    cases hp : putS ws [a] with
    | none => exact .inr (.inl (by simp [hp]))
    | some c =>
      right; right
      by_cases hc : t ≠ 65535 ∧ 0 < bs.length
      · exact .inl ⟨by simpa using hc.1, hc.2⟩
      · right
        intro hm
        have hb : bodyQ (t, a, bs) = some (c ++ bs) := by unfold bodyQ; rw [hr]; simp only [hp]; rw [if_neg hc]
        have hbl := bodyQ_len hb
        simp only at hbl
        unfold goodP itemQ at h
        rw [hb] at h
        have ht : 0 ≤ t ∧ t ≤ 65535 := by
          rcases rowsQ_cases t with ⟨h, -⟩ | ⟨h | h, -⟩ | ⟨-, h⟩
          · omega
          · omega
          · omega
          · rw [h] at hr; cases hr
        have hf : shQ.good (t, c ++ bs) = true := by
          simp only [Sh.good, Sh.fits, shQ, Bool.and_eq_true, decide_eq_true_eq, Bool.false_or]
          exact ⟨⟨⟨ht.1, ht.2⟩, by omega⟩, decide_eq_true (by show 16 ≤ _; omega), decide_eq_true (by show _ % 8 = 0; omega)⟩
        rw [hf] at h
        cases h
theorem goodP_some {t a : Int} {bs : List Int} (h : goodP (t, a, bs) = true) : ∃ c, (rowsQ t).isSome = true ∧ (putS ((rowsQ t).getD []) [a]).isSome = true ∧ (putS ((rowsQ t).getD []) [a]).getD [] = c ∧ c.length = 12 ∧ U8 c ∧ (t = 65535 ∨ ((t != 65535) = true ∧ bs.length = 0)) ∧ bs.length % 8 = 0 ∧ bs.length ≤ 65512 ∧ (0 ≤ t ∧ t ≤ 65535) ∧
    shQ.thing (itemQ (t, a, bs)) = be 2 t ++ be 2 (16 + bs.length : Nat) ++ c ++ bs := by
  unfold goodP at h
  simp only [Bool.and_eq_true] at h
  obtain ⟨h1, h2⟩ := h
  obtain ⟨b, hb⟩ := Option.isSome_iff_exists.1 h1
  have hbl := bodyQ_len hb
  simp only at hbl
  have hi : itemQ (t, a, bs) = (t, b) := by unfold itemQ; rw [hb]
  rw [hi] at h2 ⊢
  simp only [Sh.good, Sh.fits, shQ, Bool.and_eq_true, decide_eq_true_eq, Bool.false_or] at h2
  obtain ⟨⟨⟨g1, g2⟩, g3⟩, g4, g5⟩ := h2
  have g5 : (4 + b.length) % 8 = 0 := of_decide_eq_true g5
  unfold bodyQ at hb
  cases hr : rowsQ t with
  | none => rw [hr] at hb; cases hb
  | some ws =>
    rw [hr] at hb
    simp only at hb
    cases hp : putS ws [a] with
    | none => rw [hp] at hb; cases hb
    | some c =>
      rw [hp] at hb
      simp only at hb
      split at hb
      · cases hb
      · rename_i hc
        injection hb with hb
        have hpl : putL ws [a] = some c := by
          unfold putS at hp
          split at hp
          · exact hp
          · cases hp
        have hcl : c.length = 12 := by rw [putL_len hpl, (rowsQ_some hr).2.1]
        refine ⟨c, rfl, by simp [hp], by simp [hp], hcl, putL_byte hpl, ?_, by omega, by omega, ⟨g1, g2⟩, ?_⟩
        · by_cases h1 : t = 65535
          · exact .inl h1
          · exact .inr ⟨by simpa using h1, by
              by_cases h2 : 0 < bs.length
              · exact absurd ⟨h1, h2⟩ hc
              · omega⟩
        · unfold Sh.thing
          subst hb
          show be 2 t ++ (be 2 (4 + (c ++ bs).length : Nat) ++ ((c ++ bs) ++ List.replicate (shQ.zeros _) 0)) = _
          rw [show 4 + (c ++ bs).length = 16 + bs.length by simp; omega]
          unfold Sh.zeros shQ
          simp
theorem putQ_le (t n : Int) : ((putS ((rowsQ t).getD []) [n]).getD []).length ≤ 12 := by
  cases hr : rowsQ t with
  | none => simp [putS, cntL]
  | some ws =>
    show ((putS ws [n]).getD []).length ≤ 12
    cases hp : putS ws [n] with
    | none => simp
    | some c =>
      have hpl : putL ws [n] = some c := by
        unfold putS at hp
        split at hp
        · exact hp
        · cases hp
      show c.length ≤ 12
      rw [putL_len hpl, (rowsQ_some hr).2.1]
      omega
theorem propsB_snoc (l : List Prp) (p : Prp) : propsB (l ++ [p]) = propsB l ++ shQ.thing (itemQ p) := by simp [propsB, Sh.all]
theorem propsB_len {l : List Prp} (h : l.all goodP = true) : (propsB l).length ≤ 70000 * l.length := by
  rw [goodP_all] at h
  simp only [Bool.and_eq_true] at h
  have := Sh.all_len shQ_may h.2
  rw [List.length_map] at this
  exact this

def GotProps (ps : List Prp) (w : World) (e : Ending) (w' : World) : Prop :=
  ∃ v, e = .returned (.tuple #[v, .bool (ps.all goodP)]) ∧ w'.ownsRow w.heap.size 5 1 v (if ps.all goodP then propsB ps else []).length ((if ps.all goodP then propsB ps else []).map (Value.int .u8)) ∧ U8 (if ps.all goodP then propsB ps else []) ∧ Below w.heap.size w w'

/-- The block of what grows lies ahead of a or behind b; the other's between. -/
theorem far_ne {x y : Value} {a b : Nat} (hr : ∀ k, x.ownBlock = some k → k < a ∨ b ≤ k) (hc : ∀ k, y.ownBlock = some k → a ≤ k ∧ k < b) : ∀ k, y.ownBlock = some k → some k ≠ x.ownBlock := fun k e e' => by
  have h1 := hr k e'.symm
  have h2 := hc k e
  omega
theorem far_next {x x' : Value} {a b : Nat} {w3 : World} (hr : ∀ k, x.ownBlock = some k → k < a ∨ b ≤ k) (hv : x'.ownBlock = x.ownBlock ∨ x'.ownBlock = some w3.heap.size) (hs : b ≤ w3.heap.size) : ∀ k, x'.ownBlock = some k → k < a ∨ b ≤ k := fun k e => by
  rcases hv with h | h
  · exact hr k (h.symm.trans e)
  · rw [h] at e; injection e with e; omega

theorem props_own {t : Int} {all0 c bs : List Int} {W : World} {L : Nat} {v : Value} (hbe : be 2 (16 + (bs.length : Int)) = be 2 (16 + bs.length : Nat)) (hcl : c.length = 12)
    (h : W.ownsRow L 5 1 v (all0.length + 2 + 2 + 12 + bs.length) (all0.map (Value.int .u8) ++ (be 2 t).map (Value.int .u8) ++ (be 2 (16 + (bs.length : Int))).map (Value.int .u8) ++ c.map (Value.int .u8) ++ bs.map (Value.int .u8))) :
    W.ownsRow L 5 1 v (all0 ++ (be 2 t ++ be 2 (16 + bs.length : Nat) ++ c ++ bs)).length ((all0 ++ (be 2 t ++ be 2 (16 + bs.length : Nat) ++ c ++ bs)).map (Value.int .u8)) := by
  rw [hbe] at h
  have h1 : (all0 ++ (be 2 t ++ be 2 (16 + bs.length : Nat) ++ c ++ bs)).length = all0.length + 2 + 2 + 12 + bs.length := by simp [be_length, hcl]; omega
  have h2 : (all0 ++ (be 2 t ++ be 2 (16 + bs.length : Nat) ++ c ++ bs)).map (Value.int .u8) = all0.map (Value.int .u8) ++ (be 2 t).map (Value.int .u8) ++ (be 2 (16 + bs.length : Nat)).map (Value.int .u8) ++ c.map (Value.int .u8) ++ bs.map (Value.int .u8) := by simp
  rw [h1, h2]
  exact h

theorem ref_props {pv : Value} {ps : List Prp} {w : World} (hq : RowsOf PrpR 3 w pv ps) (hf : fewP ps) : Calls Try.prog 60 #[pv] w (GotProps ps w) := by
  obtain ⟨a, cap, b, off, rfl, hcap, hmx, -, ha, hit⟩ := prps_open hq
  unfold maxLen at hmx
  have A := Lib.hid ha
  have HIt := Lib.hid hit
  have HF := Lib.hid hf
  clear hq ha hit hf
  go_enter Try.func60, Try.ntmps60
  go_wp2_with fail
  go_loopw [4, 5] (fun v i wr => ∃ k : Nat, k ≤ ps.length ∧ i = .int .i64 k ∧ Hid ((ps.take k).all goodP = true) ∧ Hid (wr.ownsRow w.heap.size 5 1 v (propsB (ps.take k)).length ((propsB (ps.take k)).map (Value.int .u8))) ∧ Hid (U8 (propsB (ps.take k))) ∧ Hid (Below w.heap.size w wr)) (fun _ i _ => ps.length - (intOf i).toNat)
  case atStart => exact ⟨0, by omega, rfl, rfl, World.ownsRow_nil _ _ _ _, fun z hz => by simp [propsB, Sh.all] at hz, Below.refl _ _⟩
  case round =>
    obtain ⟨k, hk, rfl, HG, HO, HU, HB⟩ := hrel
    have hpl := propsB_len HG.out
    rw [List.length_take] at hpl
    have hk10 : ps.length ≤ 10000 := HF.out.1
    have hpl : (propsB (ps.take k)).length ≤ 700000000 := by omega
    obtain ⟨ar, capr, rfl⟩ := own_slice HO.out
    by_cases hlt : k < ps.length
    · obtain rfl := A.out (by omega)
      obtain ⟨⟨t, n, bs⟩, hx⟩ : ∃ x, ps[k]? = some x := ⟨_, List.getElem?_eq_getElem hlt⟩
      obtain ⟨dv, x0, x1, x2, hd, hwt, hwn⟩ := HIt.out k t n bs hx
      have hbl : bs.length ≤ 10000 := HF.out.2 _ (List.mem_of_getElem? hx)
      have X0 : Hid (w.cell? ⟨b, off + k * 3, none⟩ = some (.int .i64 t)) := x0
      have X1 : Hid (w.cell? ⟨b, off + k * 3 + 1, none⟩ = some (.int .u64 n)) := x1
      have X2 : Hid (w.cell? ⟨b, off + k * 3 + 2, none⟩ = some dv) := x2
      have hst : ∀ wq : World, Below w.heap.size w wq → wq.cell? ⟨b, off + k * 3, none⟩ = some (.int .i64 t) ∧ wq.cell? ⟨b, off + k * 3 + 1, none⟩ = some (.int .u64 n) ∧ wq.cell? ⟨b, off + k * 3 + 2, none⟩ = some dv := fun wq hb =>
        ⟨(hb.cell (World.block_lt_of_cell? _ _ X0.out)).trans X0.out, (hb.cell (World.block_lt_of_cell? _ _ X1.out)).trans X1.out, (hb.cell (World.block_lt_of_cell? _ _ X2.out)).trans X2.out⟩
      have ST := Lib.hid hst
      have HD := Lib.hid hd
      obtain ⟨ad, capd, bd, od, rfl, -⟩ := hd.open
      have HSn : Hid (propsB (ps.take (k + 1)) = propsB (ps.take k) ++ shQ.thing (itemQ (t, n, bs))) := by show _ = _; rw [take_snoc' hx, propsB_snoc]
      have HSa : Hid ((ps.take (k + 1)).all goodP = goodP (t, n, bs)) := by show _ = _; rw [take_snoc' hx, List.all_append, HG.out]; simp
      have HAll : Hid (goodP (t, n, bs) = false → ps.all goodP = false) := fun h => by
        cases hc : ps.all goodP with
        | false => rfl
        | true =>
          have := List.all_eq_true.1 hc _ (List.mem_of_getElem? hx)
          rw [h] at this
          cases this
      have HW := Lib.hid hwn
      obtain ⟨y0, y1, y2⟩ := ST.out wr HB.out
      clear hst x0 x1 x2 hd hwn hx
      have e1 : decide ((k : Int) < (ps.length : Int)) = true := decide_eq_true (by omega)
      go_wp2_with fail
      refine (ref_rows t wr).mono ?_
      rintro e w1 ⟨aw, capw, rfl, hr, hb⟩
      have HB1 := Lib.hid (HB.out.trans (hb.mono HB.out.size))
      have HO1 := Lib.hid (own_below HO.out hb)
      have HR := Lib.hid hr
      clear hr hb y0 y1 y2
      obtain ⟨y0, y1, y2⟩ := ST.out w1 HB1.out
      go_wp2_with fail
      have hp1 := ref_put _ _ ((rowsQ t).getD []) [n] (w1.alloc (.cells #[.int .u64 n] 76)) (HR.out.below (below_alloc2 _)) (Ints.lit .u64 w1 76 [n] _ rfl (by simp) (by simpa using HW.out))
      refine hp1.mono ?_
      clear hp1
      rintro e w2 ⟨v2, rfl, ho, hb⟩
      have hb' := (below_alloc2 (w := w1) (.cells #[.int .u64 n] 76)).trans (hb.mono (by simp))
      have HB2 := Lib.hid (HB1.out.trans (hb'.mono HB1.out.size))
      have HO2 := Lib.hid (own_below HO1.out hb')
      have hlow : w.heap.size ≤ (w1.alloc (.cells #[.int .u64 n] 76)).heap.size := by simp; have := HB1.out.size; omega
      have HV2 := Lib.hid (own_base ho hlow)
      have hcb : ∀ k, v2.ownBlock = some k → w1.heap.size ≤ k ∧ k < w2.heap.size := fun k e => by have := ho.lt k e; simp at this; omega
      have hrb : ∀ q, (Value.slice ar (propsB (ps.take k)).length capr).ownBlock = some q → q < w1.heap.size ∨ w2.heap.size ≤ q := fun _ e => .inl (HO1.out.lt _ e).2
      have FC := Lib.hid hcb
      have FR := Lib.hid hrb
      clear hcb hrb
      have HC2 := Lib.hid (Ints.of_own ho (putS_u8 ((rowsQ t).getD []) [n]).wf)
      have hB12 := putQ_le t n
      obtain ⟨a2, cap2, rfl⟩ := own_slice ho
      obtain ⟨y0, y1, y2⟩ := ST.out w2 HB2.out
      clear hb hb' ho HO1 HR HB1 hlow
      cases hg : goodP (t, n, bs) with
      | false =>
        have hbad := goodP_none hg hbl
        have HN := Lib.hid (HAll.out hg)
        have e3 : ¬ (65528 : Int) < 4 + ((((putS ((rowsQ t).getD []) [n]).getD []).length : Nat) : Int) + (bs.length : Int) := by omega
        have fin : Hid (∀ tmps : Array Value, tmps.getD 2 undef = .slice none 0 0 → tmps.getD 3 undef = .bool false → GotProps ps w (.returned (.tuple #[tmps.getD 2 undef, tmps.getD 3 undef])) w2) := fun tmps h1 h2 => by
          rw [h1, h2]
          unfold GotProps
          rw [HN.out]
          exact ⟨_, rfl, World.ownsRow_nil _ _ _ _, fun z hz => by simp at hz, HB2.out⟩
        clear hg HN HSn HSa HAll HO2 HV2
        generalize (putS ((rowsQ t).getD []) [n]).isSome = P at hbad ⊢
        generalize (putS ((rowsQ t).getD []) [n]).getD [] = B at hB12 e3 ⊢
        generalize ((rowsQ t).getD []).length = N
        generalize (rowsQ t).isSome = R at hbad ⊢
        cases R with
        | false =>
          clear hbad
          go_wp2_with fail
          go_ret2
          exact fin.out _ rfl rfl
        | true =>
          cases P with
          | false =>
            clear hbad
            go_wp2_with fail
            go_ret2
            exact fin.out _ rfl rfl
          | true =>
            have hbad : ((t != 65535) = true ∧ 0 < bs.length) ∨ bs.length % 8 ≠ 0 := by simpa using hbad
            by_cases hc : (t != 65535) = true ∧ 0 < bs.length
            · obtain ⟨e4, e5⟩ := hc
              have e6 : (0 : Int) < bs.length := by omega
              clear hbad
              go_wp2_with fail
              go_ret2
              exact fin.out _ rfl rfl
            · have hm := hbad.resolve_left hc
              have e7 : ((bs.length : Int).tmod 8 != 0) = true := by
                have : ((bs.length % 8 : Nat) : Int) ≠ 0 := by omega
                exact bne_iff_ne.2 this
              clear hbad
              have hc' : t = 65535 ∨ ((t != 65535) = true ∧ ¬ 0 < bs.length) := by
                by_cases h1 : t = 65535
                · exact .inl h1
                · exact .inr ⟨by simpa using h1, fun h => hc ⟨by simpa using h1, h⟩⟩
              rcases hc' with rfl | ⟨e4, e5⟩
              · clear hc
                go_wp2_with fail
                go_ret2
                exact fin.out _ rfl rfl
              · omega
      | true =>
        obtain ⟨c, hA, hP, hc, hcl, hcu, hor, hm8, hl65, htb, hth⟩ := goodP_some hg
        rw [hA, hP]
        rw [hc, hcl] at HV2 HC2 FC ⊢
        have HSn := by have := HSn.out; rw [hth] at this; exact Lib.hid this
        have HSt : Hid ((ps.take (k + 1)).all goodP = true) := Lib.hid (HSa.out.trans hg)
        have e3 : ¬ (65528 : Int) < 16 + (bs.length : Int) := by omega
        have e7 : ((bs.length : Int).tmod 8 != 0) = false := by
          have : ((bs.length % 8 : Nat) : Int) = 0 := by omega
          exact bne_eq_false_iff_eq.2 this
        have e8 : (bs.length : Int) % 8 = 0 := by omega
        have z1 : IntKind.wrap .u64 t = t := wrap_u64n (by omega) (by omega)
        have z2 : IntKind.wrap .u64 (16 + (bs.length : Int)) = 16 + (bs.length : Int) := wrap_u64n (by omega) (by omega)
        have HN1 : Hid (∀ w : World, Calls Try.prog 50 #[.int .u64 t, .int .i64 2] w fun e w' => ∃ v, e = .returned v ∧ w'.ownsRow w.heap.size 5 1 v 2 ((be 2 t).map (Value.int .u8)) ∧ Below w.heap.size w w') := fun w => ref_num t 2 w (by omega)
        have HN2 : Hid (∀ w : World, Calls Try.prog 50 #[.int .u64 (16 + (bs.length : Int)), .int .i64 2] w fun e w' => ∃ v, e = .returned v ∧ w'.ownsRow w.heap.size 5 1 v 2 ((be 2 (16 + (bs.length : Int))).map (Value.int .u8)) ∧ Below w.heap.size w w') := fun w => ref_num (16 + (bs.length : Int)) 2 w (by omega)
        have HCU := Lib.hid hcu
        have HBe : Hid (be 2 (16 + (bs.length : Int)) = be 2 (16 + bs.length : Nat)) := by show _ = _; rw [show 16 + (bs.length : Int) = ((16 + bs.length : Nat) : Int) by omega]
        have HCL := Lib.hid hcl
        clear hA hP hg HAll hcu hm8 hth hB12
        generalize propsB (ps.take k) = all0 at HO2 HU HSn hpl FR ⊢
        generalize ((rowsQ t).getD []).length = N
        rcases hor with rfl | ⟨e4, e5⟩
        · clear hc
          go_wp2_with (first
            | (go_at_call 50; (with_reducible refine (HN1.out _).mono ?_); rintro e w3 ⟨v3, rfl, ho, hb⟩; have HB3 := Lib.hid (HB2.out.trans (hb.mono HB2.out.size)); have HO3 := Lib.hid (own_below HO2.out hb); have HV3 := Lib.hid (Sl.of_own ho); have HC3 := Lib.hid (HC2.out.below hb); have HS3 := Lib.hid hb.size; obtain ⟨av3, capv3, rfl⟩ := own_slice ho; clear ho hb HN1 y0 y1 y2; obtain ⟨y0, y1, y2⟩ := ST.out w3 HB3.out)
            | (at_builtin; refine wpList_append_sl rfl _ _ _ rfl w.heap.size 5 (.int .u8 0) 1 1 Try.underlying25 info_u8 rfl (by decide) (.slice ar all0.length capr) all0.length _ rfl HO3.out (.slice av3 2 capv3) 2 ((be 2 65535).map (Value.int .u8)) rfl (by simp [be_length]) HV3.out (ints_one _ _) (by unfold maxLen; omega) (by omega) HB3.out.size ?_; intro v4 w4 hown hgrow hvb; have HO4 := Lib.hid hown; have HB4 := Lib.hid (own_grown HB3.out HB3.out.size HO3.out hgrow rfl); have HC4 := Lib.hid (HC3.out.grown hgrow (far_ne FR.out FC.out)); have FR4 := Lib.hid (far_next FR.out hvb HS3.out); obtain ⟨a4, cap4, rfl⟩ := own_slice hown; clear hown hgrow hvb y0 y1 y2; obtain ⟨y0, y1, y2⟩ := ST.out w4 HB4.out)
            | (go_at_call 50; (with_reducible refine (HN2.out _).mono ?_); rintro e w5 ⟨v5, rfl, ho, hb⟩; have HB5 := Lib.hid (HB4.out.trans (hb.mono HB4.out.size)); have HO5 := Lib.hid (own_below HO4.out hb); have HV5 := Lib.hid (Sl.of_own ho); have HC5 := Lib.hid (HC4.out.below hb); obtain ⟨av5, capv5, rfl⟩ := own_slice ho; clear ho hb HN2 y0 y1 y2; obtain ⟨y0, y1, y2⟩ := ST.out w5 HB5.out)
            | (at_builtin; refine wpList_append_sl rfl _ _ _ rfl w.heap.size 5 (.int .u8 0) 1 1 Try.underlying25 info_u8 rfl (by decide) (.slice a4 (all0.length + 2) cap4) (all0.length + 2) _ rfl HO5.out (.slice av5 2 capv5) 2 ((be 2 (16 + (bs.length : Int))).map (Value.int .u8)) rfl (by simp [be_length]) HV5.out (ints_one _ _) (by unfold maxLen; omega) (by omega) HB5.out.size ?_; intro v6 w6 hown hgrow hvb; have HO6 := Lib.hid hown; have HB6 := Lib.hid (own_grown HB5.out HB5.out.size HO5.out hgrow rfl); have HC6 := Lib.hid (HC5.out.grown hgrow (far_ne FR4.out FC.out)); obtain ⟨a6, cap6, rfl⟩ := own_slice hown; clear hown hgrow hvb y0 y1 y2; obtain ⟨y0, y1, y2⟩ := ST.out w6 HB6.out)
            | fail)
          have HO6d : Hid (w6.drew.ownsRow w.heap.size 5 1 (.slice a6 (all0.length + 2 + 2) cap6) (all0.length + 2 + 2) (all0.map (Value.int .u8) ++ (be 2 65535).map (Value.int .u8) ++ (be 2 (16 + (bs.length : Int))).map (Value.int .u8))) := HO6
          have HS6 : Hid (Sl w6.drew (.slice a2 12 cap2) 12 (c.map (Value.int .u8))) := Lib.hid (by have := (HC6.out.below (below_drewN (Below.refl _ _) 1)).1; rw [HCL.out] at this; exact this)
          have HB6d : Hid (Below w.heap.size w w6.drew) := Lib.hid (below_drewN HB6.out 1)
          go_region_law (first
            | (refine step_append_sl (by rfl) _ _ _ (by rfl) w.heap.size 5 (.int .u8 0) 1 1 Try.underlying25 info_u8 rfl (by omega) (.slice a6 (all0.length + 2 + 2) cap6) (all0.length + 2 + 2) _ (by rfl) HO6d.out (.slice a2 12 cap2) 12 (c.map (Value.int .u8)) (by rfl) (by rw [List.length_map, HCL.out]) HS6.out (ints_one _ _) (by unfold maxLen; omega) (by omega) HB6d.out.size ?_
               intro v7 w7 hown hgrow
               have HO7 := Lib.hid hown
               have hb7 := own_grown HB6d.out HB6d.out.size HO6d.out hgrow rfl
               have HB7 := Lib.hid hb7
               have HD7 := Lib.hid (HD.out.below hb7).1
               obtain ⟨a7, cap7, rfl⟩ := own_slice hown
               obtain ⟨p0, p1, p2⟩ := ST.out w7 hb7
               clear hown hgrow hb7)
            | (refine step_append_sl (by rfl) _ _ _ (by rfl) w.heap.size 5 (.int .u8 0) 1 1 Try.underlying25 info_u8 rfl (by omega) (.slice a7 (all0.length + 2 + 2 + 12) cap7) (all0.length + 2 + 2 + 12) _ (by rfl) HO7.out (.slice ad bs.length capd) bs.length (bs.map (Value.int .u8)) (by rfl) (by simp) HD7.out (ints_one _ _) (by unfold maxLen; omega) (by omega) HB7.out.size ?_
               intro v8 w8 hown hgrow
               have HO8 := Lib.hid hown
               have HB8 := Lib.hid (own_grown HB7.out HB7.out.size HO7.out hgrow rfl)
               obtain ⟨a8, cap8, rfl⟩ := own_slice hown
               clear hown hgrow))
          all_goals
            go_wp2_with fail
            go_roundw
            case rel => exact ⟨k + 1, by omega, by go_num, HSt.out, by rw [HSn.out]; exact props_own HBe.out HCL.out HO8.out, by rw [HSn.out]; exact U8.append HU.out (U8.append (U8.append (U8.append (be_u8 _ _) (be_u8 _ _)) HCU.out) HD.out.u8), HB8.out⟩
            case measure => simp [intOf]; omega
        · clear hc
          have e5' : ¬ 0 < bs.length := by omega
          clear e5
          go_wp2_with (first
            | (go_at_call 50; (with_reducible refine (HN1.out _).mono ?_); rintro e w3 ⟨v3, rfl, ho, hb⟩; have HB3 := Lib.hid (HB2.out.trans (hb.mono HB2.out.size)); have HO3 := Lib.hid (own_below HO2.out hb); have HV3 := Lib.hid (Sl.of_own ho); have HC3 := Lib.hid (HC2.out.below hb); have HS3 := Lib.hid hb.size; obtain ⟨av3, capv3, rfl⟩ := own_slice ho; clear ho hb HN1 y0 y1 y2; obtain ⟨y0, y1, y2⟩ := ST.out w3 HB3.out)
            | (at_builtin; refine wpList_append_sl rfl _ _ _ rfl w.heap.size 5 (.int .u8 0) 1 1 Try.underlying25 info_u8 rfl (by decide) (.slice ar all0.length capr) all0.length _ rfl HO3.out (.slice av3 2 capv3) 2 ((be 2 t).map (Value.int .u8)) rfl (by simp [be_length]) HV3.out (ints_one _ _) (by unfold maxLen; omega) (by omega) HB3.out.size ?_; intro v4 w4 hown hgrow hvb; have HO4 := Lib.hid hown; have HB4 := Lib.hid (own_grown HB3.out HB3.out.size HO3.out hgrow rfl); have HC4 := Lib.hid (HC3.out.grown hgrow (far_ne FR.out FC.out)); have FR4 := Lib.hid (far_next FR.out hvb HS3.out); obtain ⟨a4, cap4, rfl⟩ := own_slice hown; clear hown hgrow hvb y0 y1 y2; obtain ⟨y0, y1, y2⟩ := ST.out w4 HB4.out)
            | (go_at_call 50; (with_reducible refine (HN2.out _).mono ?_); rintro e w5 ⟨v5, rfl, ho, hb⟩; have HB5 := Lib.hid (HB4.out.trans (hb.mono HB4.out.size)); have HO5 := Lib.hid (own_below HO4.out hb); have HV5 := Lib.hid (Sl.of_own ho); have HC5 := Lib.hid (HC4.out.below hb); obtain ⟨av5, capv5, rfl⟩ := own_slice ho; clear ho hb HN2 y0 y1 y2; obtain ⟨y0, y1, y2⟩ := ST.out w5 HB5.out)
            | (at_builtin; refine wpList_append_sl rfl _ _ _ rfl w.heap.size 5 (.int .u8 0) 1 1 Try.underlying25 info_u8 rfl (by decide) (.slice a4 (all0.length + 2) cap4) (all0.length + 2) _ rfl HO5.out (.slice av5 2 capv5) 2 ((be 2 (16 + (bs.length : Int))).map (Value.int .u8)) rfl (by simp [be_length]) HV5.out (ints_one _ _) (by unfold maxLen; omega) (by omega) HB5.out.size ?_; intro v6 w6 hown hgrow hvb; have HO6 := Lib.hid hown; have HB6 := Lib.hid (own_grown HB5.out HB5.out.size HO5.out hgrow rfl); have HC6 := Lib.hid (HC5.out.grown hgrow (far_ne FR4.out FC.out)); obtain ⟨a6, cap6, rfl⟩ := own_slice hown; clear hown hgrow hvb y0 y1 y2; obtain ⟨y0, y1, y2⟩ := ST.out w6 HB6.out)
            | fail)
          have HO6d : Hid (w6.drew.ownsRow w.heap.size 5 1 (.slice a6 (all0.length + 2 + 2) cap6) (all0.length + 2 + 2) (all0.map (Value.int .u8) ++ (be 2 t).map (Value.int .u8) ++ (be 2 (16 + (bs.length : Int))).map (Value.int .u8))) := HO6
          have HS6 : Hid (Sl w6.drew (.slice a2 12 cap2) 12 (c.map (Value.int .u8))) := Lib.hid (by have := (HC6.out.below (below_drewN (Below.refl _ _) 1)).1; rw [HCL.out] at this; exact this)
          have HB6d : Hid (Below w.heap.size w w6.drew) := Lib.hid (below_drewN HB6.out 1)
          go_region_law (first
            | (refine step_append_sl (by rfl) _ _ _ (by rfl) w.heap.size 5 (.int .u8 0) 1 1 Try.underlying25 info_u8 rfl (by omega) (.slice a6 (all0.length + 2 + 2) cap6) (all0.length + 2 + 2) _ (by rfl) HO6d.out (.slice a2 12 cap2) 12 (c.map (Value.int .u8)) (by rfl) (by rw [List.length_map, HCL.out]) HS6.out (ints_one _ _) (by unfold maxLen; omega) (by omega) HB6d.out.size ?_
               intro v7 w7 hown hgrow
               have HO7 := Lib.hid hown
               have hb7 := own_grown HB6d.out HB6d.out.size HO6d.out hgrow rfl
               have HB7 := Lib.hid hb7
               have HD7 := Lib.hid (HD.out.below hb7).1
               obtain ⟨a7, cap7, rfl⟩ := own_slice hown
               obtain ⟨p0, p1, p2⟩ := ST.out w7 hb7
               clear hown hgrow hb7)
            | (refine step_append_sl (by rfl) _ _ _ (by rfl) w.heap.size 5 (.int .u8 0) 1 1 Try.underlying25 info_u8 rfl (by omega) (.slice a7 (all0.length + 2 + 2 + 12) cap7) (all0.length + 2 + 2 + 12) _ (by rfl) HO7.out (.slice ad bs.length capd) bs.length (bs.map (Value.int .u8)) (by rfl) (by simp) HD7.out (ints_one _ _) (by unfold maxLen; omega) (by omega) HB7.out.size ?_
               intro v8 w8 hown hgrow
               have HO8 := Lib.hid hown
               have HB8 := Lib.hid (own_grown HB7.out HB7.out.size HO7.out hgrow rfl)
               obtain ⟨a8, cap8, rfl⟩ := own_slice hown
               clear hown hgrow))
          all_goals
            go_wp2_with fail
            go_roundw
            case rel => exact ⟨k + 1, by omega, by go_num, HSt.out, by rw [HSn.out]; exact props_own HBe.out HCL.out HO8.out, by rw [HSn.out]; exact U8.append HU.out (U8.append (U8.append (U8.append (be_u8 _ _) (be_u8 _ _)) HCU.out) HD.out.u8), HB8.out⟩
            case measure => simp [intOf]; omega
    · obtain rfl : k = ps.length := by omega
      rw [List.take_length] at HO HU HG
      rw [List.take_length]
      have e1 : decide ((ps.length : Int) < (ps.length : Int)) = false := decide_eq_false (by omega)
      generalize hall : propsB ps = all0 at HO HU ⊢
      have HAl := Lib.hid hall
      clear hall hpl
      go_wp2_with fail
      go_ret2
      unfold GotProps
      rw [HG.out, HAl.out]
      exact ⟨_, rfl, HO.out, HU.out, HB.out⟩
end Go.Proofs.Ytoobcgakainelaa
