/- The walk of the document's Join. Conditions: the argument reads as things, at most 10^6 of them, none of more than 10^9 bytes. -/
import Derived.Test.YtcebcncpbedkmaaZRefTA
namespace Go.Proofs.Ytcebcncpbedkmaa
open Go.RowKit
set_option maxRecDepth 100000
set_option maxHeartbeats 4000000

/-- Since w one of the document's shapes has been laid; it stands. -/
structure ShR (w : World) (s : Sh) (w' : World) : Prop where
  below : Below w.heap.size w w'
  size : w.heap.size + 1 ≤ w'.heap.size
  sh : w'.heap[w.heap.size]? = some (.cells #[.int .i64 s.least, .int .i64 s.step, .bool s.pad, .int .i64 s.bad, .int .i64 s.odd] 88 (0, 0))
theorem ShR.start (w : World) (s : Sh) : ShR w s (w.alloc (.cells #[.int .i64 s.least, .int .i64 s.step, .bool s.pad, .int .i64 s.bad, .int .i64 s.odd] 88)) where
  below := below_alloc2 _
  size := by simp
  sh := heap_alloc_new w _
theorem ShR.step {w w1 w2 : World} {s : Sh} {B : Nat} (h : ShR w s w1) (hb : Below B w1 w2) (hB : w.heap.size + 1 ≤ B) : ShR w s w2 where
  below := h.below.trans (hb.mono (by omega))
  size := Nat.le_trans h.size hb.size
  sh := (hb.block _ (by omega)).trans h.sh
theorem ShR.cell {w w' : World} {s : Sh} (h : ShR w s w') (w2 : World) (hb : Below w'.heap.size w' w2) : ShR w s w2 := h.step hb h.size
theorem ShR.own {w w' w2 : World} {s : Sh} {e size n : Nat} {v : Value} {xs : List Value} (h : ShR w s w') (ho : w'.ownsRow (w.heap.size + 1) e size v n xs) (hg : w'.grownBy w2 v.ownBlock) : ShR w s w2 :=
  h.step ((Below.refl (w.heap.size + 1) w').grown hg h.size (fun k e => (ho.lt k e).1)) (Nat.le_refl _)
theorem ShR.cells {w w' : World} {s : Sh} (h : ShR w s w') :
    w'.cell? ⟨w.heap.size, 0, none⟩ = some (.int .i64 s.least) ∧ w'.cell? ⟨w.heap.size, 1, none⟩ = some (.int .i64 s.step) ∧ w'.cell? ⟨w.heap.size, 2, none⟩ = some (.bool s.pad) ∧ w'.cell? ⟨w.heap.size, 3, none⟩ = some (.int .i64 s.bad) ∧ w'.cell? ⟨w.heap.size, 4, none⟩ = some (.int .i64 s.odd) :=
  ⟨cell_row h.sh 0, cell_row h.sh 1, cell_row h.sh 2, cell_row h.sh 3, cell_row h.sh 4⟩

theorem own_pos {w : World} {base e size n : Nat} {v : Value} {xs : List Value} (h : w.ownsRow base e size v n xs) (h0 : 0 < n) : ∃ g cap, v = .slice (some ⟨g, 0, none⟩) n cap ∧ n ≤ cap ∧ cap ≤ maxLen := by
  obtain ⟨hl, ⟨rfl, rfl⟩ | ⟨g, cap, cur, rfl, -, -, hn, hc, -⟩⟩ := h
  · omega
  · exact ⟨g, cap, rfl, hn, hc⟩

theorem rjoin_may {s : Sh} {v : Value} {l : List (Int × List Int)} {w : World} (hm : s.may = false) : Calls Try.prog 34 #[s.val, v] w (GotJoin s l w) := by
  have HM := ref_may s
  rw [hm] at HM
  have HM := Lib.hid HM
  have HO : Hid ((s.may && l.all s.good) = false) := by show _ = _; rw [hm]; rfl
  clear hm
  simp only [Sh.val]
  go_enter Try.func34, Try.ntmps34
  go_wp2_with (go_at_call 71; (with_reducible refine (HM.out _).mono ?_); rintro e w1 ⟨rfl, hb⟩; have H1 := Lib.hid ((ShR.start w s).cell _ hb); clear hb)
  go_ret2
  exact GotJoin.none HO.out H1.out.below

theorem ref_join {s : Sh} {v : Value} {l : List (Int × List Int)} {w : World} (h : RowsOf ItemR 2 w v l) (hl : l.length ≤ 1000000) (hbs : ∀ x ∈ l, x.2.length ≤ 1000000000) : Calls Try.prog 34 #[s.val, v] w (GotJoin s l w) := by
  cases hm : s.may with
  | false => exact rjoin_may hm
  | true =>
  have HM := ref_may s
  rw [hm] at HM
  have HM := Lib.hid HM
  have HMay := Lib.hid hm
  have hmi := Sh.may_iff.1 hm
  obtain ⟨a, cap, b, off, rfl, hcap, hmx, -, ha, hit⟩ := items_open h
  unfold maxLen at hmx
  have A := Lib.hid ha
  have HIt := Lib.hid hit
  have HBs := Lib.hid hbs
  obtain ⟨st, hst⟩ : ∃ st : Nat, s.step = st := ⟨s.step.toNat, by omega⟩
  have hst1 : 1 ≤ st := by omega
  have hst2 : st ≤ 64 := by omega
  have hk0 : (st : Int) ≠ 0 := by omega
  have hkb : ((st : Int) == 0) = false := by simpa using hk0
  have HSt := Lib.hid hst
  have hle4 : 4 ≤ s.least := hmi.1
  clear h hm ha hit hbs hmi
  simp only [Sh.val]
  rw [hst]
  go_enter Try.func34, Try.ntmps34
  have HM' : Hid (∀ w, Calls Try.prog 71 #[.agg #[.int .i64 s.least, .int .i64 st, .bool s.pad, .int .i64 s.bad, .int .i64 s.odd]] w fun e w' => e = .returned (.bool true) ∧ Below w.heap.size w w') := by
    have := HM.out
    simp only [Sh.val] at this
    rw [hst] at this
    exact this
  clear hst
  go_wp2_with (go_at_call 71; (with_reducible refine (HM'.out _).mono ?_); rintro e w1 ⟨rfl, hb⟩; have H1 : Hid (ShR w s w1) := (by have := (ShR.start w s).cell w1 (by rw [HSt.out]; exact hb); exact this); clear hb)
  go_loopw [6, 7] (fun r i wr => ∃ k : Nat, k ≤ l.length ∧ i = .int .i64 k ∧ Hid (ShR w s wr) ∧ Hid ((l.take k).all s.good = true) ∧ Hid (wr.ownsRow (w.heap.size + 1) 5 1 r (s.all (l.take k)).length ((s.all (l.take k)).map (Value.int .u8)))) (fun _ i _ => l.length - (intOf i).toNat)
  case atStart => exact ⟨0, by omega, rfl, H1.out, rfl, World.ownsRow_nil _ _ _ _⟩
  case round =>
    obtain ⟨k, hk, rfl, HS, HG, HO⟩ := hrel
    obtain ⟨ar, capr, rfl⟩ := own_slice HO.out
    by_cases hlt : k < l.length
    case neg =>
      obtain rfl : k = l.length := by omega
      have HAll : Hid (l.all s.good = true) := by have := HG.out; rw [List.take_length] at this; exact this
      have HJ : Hid (s.join l = (s.all l, 0)) := by show _ = _; rw [Sh.join, if_pos (by simp only [Bool.and_eq_true]; exact ⟨HMay.out, HAll.out⟩)]
      go_wp2_with fail
      go_ret2
      have := HO.out
      rw [List.take_length] at this
      unfold GotJoin
      rw [HJ.out]
      exact ⟨_, rfl, by rw [List.take_length]; exact own_base this (by omega), Sh.all_u8 (fun x hx => by obtain ⟨i, hi⟩ := List.mem_iff_getElem?.1 hx; obtain ⟨_, _, _, h9, _⟩ := HIt.out i x.1 x.2 hi; exact h9.u8), HS.out.below⟩
    obtain rfl := A.out (by omega)
    obtain ⟨⟨t, bs⟩, hx⟩ : ∃ x, l[k]? = some x := ⟨_, List.getElem?_eq_getElem hlt⟩
    obtain ⟨bv, x0, x1, hbv, hwf⟩ := HIt.out k t bs hx
    have hbl : bs.length ≤ 1000000000 := HBs.out (t, bs) (List.mem_of_getElem? hx)
    obtain ⟨ab, capb, bb, ob, rfl, hc1, hc2, -⟩ := hbv.open
    have y0 := (HS.out.below.cell (World.block_lt_of_cell? _ _ x0)).trans x0
    have y1 := (HS.out.below.cell (World.block_lt_of_cell? _ _ x1)).trans x1
    have HX := Lib.hid hx
    have X0 := Lib.hid x0
    have X1 := Lib.hid x1
    have HBv := Lib.hid hbv
    obtain ⟨c0, c1, c2, c3, c4⟩ := HS.out.cells
    rw [HSt.out] at c1
    clear x0 x1 hx hbv
    have hfit : s.fits (4 + bs.length) = (decide (s.least.toNat ≤ 4 + bs.length) && (s.pad || decide ((4 + bs.length) % st = 0))) := by
      unfold Sh.fits; rw [HSt.out]; simp
    have hmod : (((4 + bs.length) % st : Nat) : Int) = (4 + (bs.length : Int)) % (st : Int) := by rw [Int.natCast_emod]; simp
    cases hg : s.good (t, bs) with
    | false =>
      have HB := Lib.hid (good_false HX.out hg)
      by_cases b1 : t < 0
      · have e1 : decide (t < 0) = true := decide_eq_true b1
        clear hg b1 hfit hmod
        go_wp2_with fail
        go_ret2
        exact GotJoin.none HB.out HS.out.below
      have e1 : decide (t < 0) = false := decide_eq_false b1
      by_cases b2 : 65535 < t
      · have e2 : decide ((65535 : Int) < t) = true := decide_eq_true b2
        clear hg b1 b2 hfit hmod
        go_wp2_with fail
        go_ret2
        exact GotJoin.none HB.out HS.out.below
      have e2 : decide ((65535 : Int) < t) = false := decide_eq_false b2
      by_cases b4 : 4 + (bs.length : Int) < s.least
      · have e4 : decide (4 + (bs.length : Int) < s.least) = true := decide_eq_true b4
        clear hg b1 b2 b4 hfit hmod
        go_wp2_with fail
        go_ret2
        exact GotJoin.none HB.out HS.out.below
      have e4 : decide (4 + (bs.length : Int) < s.least) = false := decide_eq_false b4
      by_cases b3 : 65535 < 4 + bs.length
      · have e3 : decide ((65535 : Int) < 4 + (bs.length : Int)) = true := decide_eq_true (by omega)
        clear hg b1 b2 b3 b4 hfit hmod
        go_wp2_with fail
        go_ret2
        exact GotJoin.none HB.out HS.out.below
      have e3 : decide ((65535 : Int) < 4 + (bs.length : Int)) = false := decide_eq_false (by omega)
      have hgf : s.fits (4 + bs.length) = false := by
        have q4 : decide (0 ≤ t) = true := decide_eq_true (by omega)
        have q5 : decide (t ≤ 65535) = true := decide_eq_true (by omega)
        have q6 : decide (4 + bs.length ≤ 65535) = true := decide_eq_true (by omega)
        simpa [Sh.good, q4, q5, q6] using hg
      rw [hfit, decide_eq_true (show s.least.toNat ≤ 4 + bs.length by omega), Bool.true_and] at hgf
      have hpad : s.pad = false := by cases hp : s.pad with
        | false => rfl
        | true => rw [hp] at hgf; simp at hgf
      rw [hpad, Bool.false_or] at hgf
      have hne : (4 + (bs.length : Int)) % (st : Int) ≠ 0 := by
        rw [← hmod]
        have : ¬ (4 + bs.length) % st = 0 := by simpa using hgf
        omega
      rw [hpad] at c2
      clear hg b1 b2 b3 b4 hfit hmod hgf hpad
      go_wp2_with fail
      go_ret2
      exact GotJoin.none HB.out HS.out.below
    | true =>
      have HG1 := Lib.hid (take_all HX.out hg HG.out)
      have HSn : Hid (s.all (l.take (k + 1)) = s.all (l.take k) ++ s.thing (t, bs)) := by rw [Hid, take_snoc' HX.out, Sh.all_snoc]
      have hlen : (s.all (l.take k)).length ≤ 70000 * (l.take k).length := Sh.all_len HMay.out HG.out
      rw [List.length_take] at hlen
      simp only [Sh.good, Bool.and_eq_true, decide_eq_true_eq] at hg
      obtain ⟨⟨⟨g1, g2⟩, g3⟩, g4⟩ := hg
      rw [hfit] at g4
      simp only [Bool.and_eq_true, decide_eq_true_eq] at g4
      obtain ⟨g5, g6⟩ := g4
      have g7 : (4 : Int) + (bs.length : Int) ≤ 65535 := by omega
      have e1 : decide (t < 0) = false := decide_eq_false (by omega)
      have e2 : decide ((65535 : Int) < t) = false := decide_eq_false (by omega)
      have e3 : decide ((65535 : Int) < 4 + (bs.length : Int)) = false := decide_eq_false (by omega)
      have e4 : decide (4 + (bs.length : Int) < s.least) = false := decide_eq_false (by omega)
      have HTh : Hid (s.thing (t, bs) = be 2 t ++ (be 2 (4 + bs.length : Nat) ++ (bs ++ List.replicate (s.zeros (4 + bs.length)) 0))) := rfl
      have hzd : s.zeros (4 + bs.length) = if s.pad then (st - (4 + bs.length) % st) % st else 0 := by unfold Sh.zeros; rw [HSt.out]; simp
      have HN1 : Hid (∀ w, Calls Try.prog 72 #[.int .u64 t, .int .i64 2] w fun e w' => ∃ v, e = .returned v ∧ w'.ownsRow w.heap.size 5 1 v 2 ((be 2 t).map (Value.int .u8)) ∧ Below w.heap.size w w') := fun w => ref_num t 2 w (by omega)
      have HN2 : Hid (∀ w, Calls Try.prog 72 #[.int .u64 (4 + (bs.length : Int)), .int .i64 2] w fun e w' => ∃ v, e = .returned v ∧ w'.ownsRow w.heap.size 5 1 v 2 ((be 2 (4 + bs.length : Nat)).map (Value.int .u8)) ∧ Below w.heap.size w w') := fun w => by
        have := ref_num ((4 + bs.length : Nat) : Int) 2 w (by omega)
        rw [show ((4 + bs.length : Nat) : Int) = 4 + (bs.length : Int) by omega] at this ⊢
        exact this
      have hz64 : (st - (4 + bs.length) % st) % st < st := Nat.mod_lt _ (by omega)
      have HZr : Hid (∀ w, Calls Try.prog 73 #[.int .i64 (4 + (bs.length : Int)), .int .i64 st] w fun e w' => e = .returned (.int .i64 ((st - (4 + bs.length) % st) % st : Nat)) ∧ w = w') := fun w => by
        have := ref_zeros (4 + bs.length) st hst1 hst2 (by omega) w
        rw [show ((4 + bs.length : Nat) : Int) = 4 + (bs.length : Int) by omega] at this
        exact this
      generalize (st - (4 + bs.length) % st) % st = z at hz64 HZr hzd
      have hpm : s.pad = false → (4 + (bs.length : Int)) % (st : Int) = 0 := fun hp => by
        rw [← hmod]
        rw [hp] at g6
        have : (4 + bs.length) % st = 0 := by simpa using g6
        omega
      generalize hall0 : s.all (l.take k) = all0 at HO HSn hlen ⊢
      have HSn := HSn
      clear hall0 hfit hmod g5 g6
      have hab : all0.length ≤ 70000000000 := by omega
      clear hlen
      have step1 : ∀ (wq : World), ShR w s wq → wq.cell? ⟨w.heap.size, 0, none⟩ = some (.int .i64 s.least) ∧ wq.cell? ⟨w.heap.size, 1, none⟩ = some (.int .i64 st) ∧ wq.cell? ⟨w.heap.size, 2, none⟩ = some (.bool s.pad) ∧ wq.cell? ⟨b, off + k * 2, none⟩ = some (.int .i64 t) ∧ wq.cell? ⟨b, off + k * 2 + 1, none⟩ = some (.slice ab bs.length capb) := fun wq h => by
        obtain ⟨q0, q1, q2, -, -⟩ := h.cells
        rw [HSt.out] at q1
        exact ⟨q0, q1, q2, (h.below.cell (World.block_lt_of_cell? _ _ X0.out)).trans X0.out, (h.below.cell (World.block_lt_of_cell? _ _ X1.out)).trans X1.out⟩
      have ST := Lib.hid step1
      clear step1
      cases hp : s.pad with
      | false =>
        have e7 := hpm hp
        rw [hp] at c2 ST hzd
        have HZ0 : Hid (s.zeros (4 + bs.length) = 0) := by rw [Hid, hzd]; rfl
        clear hpm hzd hp HZr
        go_wp2_with (first
          | (go_at_call 72; (with_reducible refine (HN1.out _).mono ?_); rintro e w2 ⟨v2, rfl, ho, hb⟩; have H2 := Lib.hid (HS.out.cell _ hb); have HO2 := Lib.hid (own_below HO.out hb); have HV2 := Lib.hid (Sl.of_own ho); obtain ⟨av2, capv2, rfl⟩ := own_slice ho; clear HN1 ho hb y0 y1 c0 c1 c2 c3 c4; obtain ⟨c0, c1, c2, y0, y1⟩ := ST.out _ H2.out)
          | (at_builtin; refine wpList_append_sl rfl _ _ _ rfl (w.heap.size + 1) 5 (.int .u8 0) 1 1 Try.underlying24 info_u8 rfl (by decide) (.slice ar all0.length capr) all0.length _ rfl HO2.out (.slice av2 2 capv2) 2 ((be 2 t).map (Value.int .u8)) rfl (by simp [be_length]) HV2.out (ints_one _ _) (by unfold maxLen; omega) (by omega) H2.out.size ?_; intro v3 w3 hown hgrow _; have H3 := Lib.hid (H2.out.own HO2.out hgrow); have HO3 := Lib.hid hown; obtain ⟨a3, cap3, rfl⟩ := own_slice hown; clear hown hgrow y0 y1 c0 c1 c2; obtain ⟨c0, c1, c2, y0, y1⟩ := ST.out _ H3.out)
          | (go_at_call 72; (with_reducible refine (HN2.out _).mono ?_); rintro e w4 ⟨v4, rfl, ho, hb⟩; have H4 := Lib.hid (H3.out.cell _ hb); have HO4 := Lib.hid (own_below HO3.out hb); have HV4 := Lib.hid (Sl.of_own ho); obtain ⟨av4, capv4, rfl⟩ := own_slice ho; clear HN2 ho hb y0 y1 c0 c1 c2; obtain ⟨c0, c1, c2, y0, y1⟩ := ST.out _ H4.out)
          | (at_builtin; refine wpList_append_sl rfl _ _ _ rfl (w.heap.size + 1) 5 (.int .u8 0) 1 1 Try.underlying24 info_u8 rfl (by decide) (.slice a3 (all0.length + 2) cap3) (all0.length + 2) _ rfl HO4.out (.slice av4 2 capv4) 2 ((be 2 (4 + bs.length : Nat)).map (Value.int .u8)) rfl (by simp [be_length]) HV4.out (ints_one _ _) (by unfold maxLen; omega) (by omega) H4.out.size ?_; intro v5 w5 hown hgrow _; have H5 := Lib.hid (H4.out.own HO4.out hgrow); have HO5 := Lib.hid hown; obtain ⟨a5, cap5, rfl⟩ := own_slice hown; have HB5 := Lib.hid (HBv.out.below H5.out.below); clear hown hgrow y0 y1 c0 c1 c2; obtain ⟨c0, c1, c2, y0, y1⟩ := ST.out _ H5.out)
          | (at_builtin; refine wpList_append_sl rfl _ _ _ rfl (w.heap.size + 1) 5 (.int .u8 0) 1 1 Try.underlying24 info_u8 rfl (by decide) (.slice a5 (all0.length + 2 + 2) cap5) (all0.length + 2 + 2) _ rfl HO5.out (.slice ab bs.length capb) bs.length (bs.map (Value.int .u8)) rfl (by simp) HB5.out.1 (ints_one _ _) (by unfold maxLen; omega) (by omega) H5.out.size ?_; intro v6 w6 hown hgrow _; have H6 := Lib.hid (H5.out.own HO5.out hgrow); have HO6 := Lib.hid hown; obtain ⟨a6, cap6, rfl⟩ := own_slice hown; clear hown hgrow y0 y1 c0 c1 c2; obtain ⟨c0, c1, c2, y0, y1⟩ := ST.out _ H6.out)
          | fail)
        go_roundw
        case rel =>
          refine ⟨k + 1, by omega, by go_num, H6.out, HG1.out, ?_⟩
          have := HO6.out
          rw [HSn.out, HTh.out, HZ0.out]
          have h1 : (all0 ++ (be 2 t ++ (be 2 (4 + bs.length : Nat) ++ (bs ++ List.replicate 0 0)))).length = all0.length + 2 + 2 + bs.length := by simp [be_length]; omega
          have h2 : (all0 ++ (be 2 t ++ (be 2 (4 + bs.length : Nat) ++ (bs ++ List.replicate 0 0)))).map (Value.int .u8) = all0.map (Value.int .u8) ++ (be 2 t).map (Value.int .u8) ++ (be 2 (4 + bs.length : Nat)).map (Value.int .u8) ++ bs.map (Value.int .u8) := by simp
          rw [h1, h2]
          exact this
        case measure => simp [intOf]; omega
      | true =>
        rw [hp] at c2 ST hzd
        have HZz : Hid (s.zeros (4 + bs.length) = z) := by rw [Hid, hzd]; rfl
        clear hpm hzd hp
        by_cases hz0 : z = 0
        · subst hz0
          go_wp2_with (first
            | (go_at_call 72; (with_reducible refine (HN1.out _).mono ?_); rintro e w2 ⟨v2, rfl, ho, hb⟩; have H2 := Lib.hid (HS.out.cell _ hb); have HO2 := Lib.hid (own_below HO.out hb); have HV2 := Lib.hid (Sl.of_own ho); obtain ⟨av2, capv2, rfl⟩ := own_slice ho; clear HN1 ho hb y0 y1 c0 c1 c2 c3 c4; obtain ⟨c0, c1, c2, y0, y1⟩ := ST.out _ H2.out)
            | (at_builtin; refine wpList_append_sl rfl _ _ _ rfl (w.heap.size + 1) 5 (.int .u8 0) 1 1 Try.underlying24 info_u8 rfl (by decide) (.slice ar all0.length capr) all0.length _ rfl HO2.out (.slice av2 2 capv2) 2 ((be 2 t).map (Value.int .u8)) rfl (by simp [be_length]) HV2.out (ints_one _ _) (by unfold maxLen; omega) (by omega) H2.out.size ?_; intro v3 w3 hown hgrow _; have H3 := Lib.hid (H2.out.own HO2.out hgrow); have HO3 := Lib.hid hown; obtain ⟨a3, cap3, rfl⟩ := own_slice hown; clear hown hgrow y0 y1 c0 c1 c2; obtain ⟨c0, c1, c2, y0, y1⟩ := ST.out _ H3.out)
            | (go_at_call 72; (with_reducible refine (HN2.out _).mono ?_); rintro e w4 ⟨v4, rfl, ho, hb⟩; have H4 := Lib.hid (H3.out.cell _ hb); have HO4 := Lib.hid (own_below HO3.out hb); have HV4 := Lib.hid (Sl.of_own ho); obtain ⟨av4, capv4, rfl⟩ := own_slice ho; clear HN2 ho hb y0 y1 c0 c1 c2; obtain ⟨c0, c1, c2, y0, y1⟩ := ST.out _ H4.out)
            | (at_builtin; refine wpList_append_sl rfl _ _ _ rfl (w.heap.size + 1) 5 (.int .u8 0) 1 1 Try.underlying24 info_u8 rfl (by decide) (.slice a3 (all0.length + 2) cap3) (all0.length + 2) _ rfl HO4.out (.slice av4 2 capv4) 2 ((be 2 (4 + bs.length : Nat)).map (Value.int .u8)) rfl (by simp [be_length]) HV4.out (ints_one _ _) (by unfold maxLen; omega) (by omega) H4.out.size ?_; intro v5 w5 hown hgrow _; have H5 := Lib.hid (H4.out.own HO4.out hgrow); have HO5 := Lib.hid hown; obtain ⟨a5, cap5, rfl⟩ := own_slice hown; have HB5 := Lib.hid (HBv.out.below H5.out.below); clear hown hgrow y0 y1 c0 c1 c2; obtain ⟨c0, c1, c2, y0, y1⟩ := ST.out _ H5.out)
            | (at_builtin; refine wpList_append_sl rfl _ _ _ rfl (w.heap.size + 1) 5 (.int .u8 0) 1 1 Try.underlying24 info_u8 rfl (by decide) (.slice a5 (all0.length + 2 + 2) cap5) (all0.length + 2 + 2) _ rfl HO5.out (.slice ab bs.length capb) bs.length (bs.map (Value.int .u8)) rfl (by simp) HB5.out.1 (ints_one _ _) (by unfold maxLen; omega) (by omega) H5.out.size ?_; intro v6 w6 hown hgrow _; have H6 := Lib.hid (H5.out.own HO5.out hgrow); have HO6 := Lib.hid hown; obtain ⟨g6, cap6, rfl, hcp6, hmx6⟩ := own_pos hown (by omega); unfold maxLen at hmx6; clear hown hgrow y0 y1 c0 c1 c2; obtain ⟨c0, c1, c2, y0, y1⟩ := ST.out _ H6.out)
            | (go_at_call 73; (with_reducible refine (HZr.out _).mono ?_); rintro e w7 ⟨rfl, rfl⟩)
            | fail)
          go_roundw
          case rel =>
            refine ⟨k + 1, by omega, by go_num, H6.out, HG1.out, ?_⟩
            have := HO6.out
            rw [HSn.out, HTh.out, HZz.out]
            have h1 : (all0 ++ (be 2 t ++ (be 2 (4 + bs.length : Nat) ++ (bs ++ List.replicate 0 0)))).length = all0.length + 2 + 2 + bs.length := by simp [be_length]; omega
            have h2 : (all0 ++ (be 2 t ++ (be 2 (4 + bs.length : Nat) ++ (bs ++ List.replicate 0 0)))).map (Value.int .u8) = all0.map (Value.int .u8) ++ (be 2 t).map (Value.int .u8) ++ (be 2 (4 + bs.length : Nat)).map (Value.int .u8) ++ bs.map (Value.int .u8) := by simp
            rw [h1, h2]
            exact this
          case measure => simp [intOf]; omega
        · have hzp : 0 < z := by omega
          go_wp2_with (first
            | (go_at_call 72; (with_reducible refine (HN1.out _).mono ?_); rintro e w2 ⟨v2, rfl, ho, hb⟩; have H2 := Lib.hid (HS.out.cell _ hb); have HO2 := Lib.hid (own_below HO.out hb); have HV2 := Lib.hid (Sl.of_own ho); obtain ⟨av2, capv2, rfl⟩ := own_slice ho; clear HN1 ho hb y0 y1 c0 c1 c2 c3 c4; obtain ⟨c0, c1, c2, y0, y1⟩ := ST.out _ H2.out)
            | (at_builtin; refine wpList_append_sl rfl _ _ _ rfl (w.heap.size + 1) 5 (.int .u8 0) 1 1 Try.underlying24 info_u8 rfl (by decide) (.slice ar all0.length capr) all0.length _ rfl HO2.out (.slice av2 2 capv2) 2 ((be 2 t).map (Value.int .u8)) rfl (by simp [be_length]) HV2.out (ints_one _ _) (by unfold maxLen; omega) (by omega) H2.out.size ?_; intro v3 w3 hown hgrow _; have H3 := Lib.hid (H2.out.own HO2.out hgrow); have HO3 := Lib.hid hown; obtain ⟨a3, cap3, rfl⟩ := own_slice hown; clear hown hgrow y0 y1 c0 c1 c2; obtain ⟨c0, c1, c2, y0, y1⟩ := ST.out _ H3.out)
            | (go_at_call 72; (with_reducible refine (HN2.out _).mono ?_); rintro e w4 ⟨v4, rfl, ho, hb⟩; have H4 := Lib.hid (H3.out.cell _ hb); have HO4 := Lib.hid (own_below HO3.out hb); have HV4 := Lib.hid (Sl.of_own ho); obtain ⟨av4, capv4, rfl⟩ := own_slice ho; clear HN2 ho hb y0 y1 c0 c1 c2; obtain ⟨c0, c1, c2, y0, y1⟩ := ST.out _ H4.out)
            | (at_builtin; refine wpList_append_sl rfl _ _ _ rfl (w.heap.size + 1) 5 (.int .u8 0) 1 1 Try.underlying24 info_u8 rfl (by decide) (.slice a3 (all0.length + 2) cap3) (all0.length + 2) _ rfl HO4.out (.slice av4 2 capv4) 2 ((be 2 (4 + bs.length : Nat)).map (Value.int .u8)) rfl (by simp [be_length]) HV4.out (ints_one _ _) (by unfold maxLen; omega) (by omega) H4.out.size ?_; intro v5 w5 hown hgrow _; have H5 := Lib.hid (H4.out.own HO4.out hgrow); have HO5 := Lib.hid hown; obtain ⟨a5, cap5, rfl⟩ := own_slice hown; have HB5 := Lib.hid (HBv.out.below H5.out.below); clear hown hgrow y0 y1 c0 c1 c2; obtain ⟨c0, c1, c2, y0, y1⟩ := ST.out _ H5.out)
            | (at_builtin; refine wpList_append_sl rfl _ _ _ rfl (w.heap.size + 1) 5 (.int .u8 0) 1 1 Try.underlying24 info_u8 rfl (by decide) (.slice a5 (all0.length + 2 + 2) cap5) (all0.length + 2 + 2) _ rfl HO5.out (.slice ab bs.length capb) bs.length (bs.map (Value.int .u8)) rfl (by simp) HB5.out.1 (ints_one _ _) (by unfold maxLen; omega) (by omega) H5.out.size ?_; intro v6 w6 hown hgrow _; have H6 := Lib.hid (H5.out.own HO5.out hgrow); have HO6 := Lib.hid hown; obtain ⟨a6, cap6, rfl⟩ := own_slice hown; clear hown hgrow y0 y1 c0 c1 c2; obtain ⟨c0, c1, c2, y0, y1⟩ := ST.out _ H6.out)
            | (go_at_call 73; (with_reducible refine (HZr.out _).mono ?_); rintro e w7 ⟨rfl, rfl⟩)
            | (at_builtin; refine wpList_append_zeros rfl _ _ _ _ rfl (w.heap.size + 1) 5 .i64 (.int .u8 0) 1 Try.underlying24 Try.underlying3 info_u8 rfl rfl (.slice a6 (all0.length + 2 + 2 + bs.length) cap6) (all0.length + 2 + 2 + bs.length) _ rfl HO6.out z _ rfl rfl hzp (by unfold maxLen; omega) (by omega) H6.out.size ?_; intro v8 w8 hown hgrow; have H8 := Lib.hid (H6.out.own HO6.out hgrow); have HO8 := Lib.hid hown; clear hown hgrow)
            | fail)
          go_roundw
          case rel =>
            refine ⟨k + 1, by omega, by go_num, H8.out, HG1.out, ?_⟩
            have := HO8.out
            rw [HSn.out, HTh.out, HZz.out]
            have h1 : (all0 ++ (be 2 t ++ (be 2 (4 + bs.length : Nat) ++ (bs ++ List.replicate z 0)))).length = all0.length + 2 + 2 + bs.length + z := by simp [be_length]; omega
            have h2 : (all0 ++ (be 2 t ++ (be 2 (4 + bs.length : Nat) ++ (bs ++ List.replicate z 0)))).map (Value.int .u8) = all0.map (Value.int .u8) ++ (be 2 t).map (Value.int .u8) ++ (be 2 (4 + bs.length : Nat)).map (Value.int .u8) ++ bs.map (Value.int .u8) ++ List.replicate z (.int .u8 0) := by simp
            rw [h1, h2]
            exact this
          case measure => simp [intOf]; omega

end Go.Proofs.Ytcebcncpbedkmaa
