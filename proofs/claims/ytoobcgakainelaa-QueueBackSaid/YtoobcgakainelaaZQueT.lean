/- Properties and queues whose data lie anywhere; the walk of the document's property (18). Conditions: at most 10^6 bytes. -/
import Derived.Test.YtoobcgakainelaaZQueS
namespace Go.Proofs.Ytoobcgakainelaa
open Go Go.RowKit

theorem Ints.agreeB {k : IntKind} {w w' : World} {v : Value} {zs : List Int} (h : Ints k w v zs) (hb : ∀ b, v.ownBlock = some b → w'.heap[b]? = w.heap[b]?) : Ints k w' v zs := by
  obtain ⟨⟨a, cap, b, off, rfl, h2, h3, h4, h5, h6⟩, hw⟩ := h
  refine ⟨⟨a, cap, b, off, rfl, h2, h3, h4, h5, ?_⟩, hw⟩
  rcases Nat.eq_zero_or_pos zs.length with h0 | h0
  · intro i hi; simp at hi; omega
  · obtain rfl := h5 h0
    exact h6.of_block (hb b rfl)
/-- A property whose data lie anywhere in what the call laid. -/
def PrpS (L : Nat) (W : World) (x : Prp) (c : List Value) : Prop := ∃ dv, c = [.int .i64 x.1, .int .u64 x.2.1, dv] ∧ Ints .u8 W dv x.2.2 ∧ ByteAt W dv ∧ (∀ b, dv.ownBlock = some b → L ≤ b ∧ b < W.heap.size) ∧ (Lit.int .i64 x.1).wf = true ∧ (Lit.int .u64 x.2.1).wf = true
theorem PrpS.kind : Kind PrpS (· = 5) where
  agree := fun ⟨dv, h1, h2, h3, h4, h5⟩ ha => ⟨dv, h1, h2.agreeB (fun b hb => ha.2 b (h4 b hb).1 (h4 b hb).2), fun b hb => by
    obtain ⟨cs, fr, hc⟩ := h3 b hb
    exact ⟨cs, fr, (ha.2 b (h4 b hb).1 (h4 b hb).2).trans hc⟩, fun b hb => ⟨(h4 b hb).1, Nat.lt_of_lt_of_le (h4 b hb).2 ha.1⟩, h5⟩
  low := fun ⟨dv, h1, h2, h3, h4, h5⟩ hL => ⟨dv, h1, h2, h3, fun b hb => ⟨Nat.le_trans hL (h4 b hb).1, (h4 b hb).2⟩, h5⟩
  kept := fun ⟨dv, h1, h2, h3, h4, h5⟩ hg hn => ⟨dv, h1, h2.keptB h3 hg (hn _ rfl), h3.kept hg (hn _ rfl), fun b hb => ⟨(h4 b hb).1, Nat.lt_of_lt_of_le (h4 b hb).2 hg.size⟩, h5⟩
theorem PrpS.read {L : Nat} {W : World} {x : Prp} {c : List Value} (h : PrpS L W x c) : PrpR W x c := by
  obtain ⟨dv, h1, h2, -, -, h3, h4⟩ := h
  exact ⟨dv, h1, h2, h3, h4⟩
def OutPr (L : Nat) (W : World) (v : Value) (pre : List Prp) : Prop := OutG PrpS 81 3 L W v pre
def QueS (L : Nat) (W : World) (x : Que) (c : List Value) : Prop := ∃ pv, c = [.int .u64 x.1, .int .u64 x.2.1, pv] ∧ OutPr L W pv x.2.2 ∧ (Lit.int .u64 x.1).wf = true ∧ (Lit.int .u64 x.2.1).wf = true
theorem QueS.kind : Kind QueS (fun t => t = 5 ∨ t = 81) where
  agree := fun ⟨pv, h1, h2, h3⟩ ha => ⟨pv, h1, OutG.agree PrpS.kind h2 ha, h3⟩
  low := fun ⟨pv, h1, h2, h3⟩ hL => ⟨pv, h1, OutG.low PrpS.kind h2 hL, h3⟩
  kept := fun ⟨pv, h1, h2, h3⟩ hg hn => ⟨pv, h1, OutG.kept PrpS.kind h2 hg hn, h3⟩
theorem QueS.read {L : Nat} {W : World} {x : Que} {c : List Value} (h : QueS L W x c) : QueR W x c := by
  obtain ⟨pv, h1, h2, h3⟩ := h
  exact ⟨pv, h1, OutG.rows h2 PrpS.read, h3⟩
def OutQr (L : Nat) (W : World) (v : Value) (pre : List Que) : Prop := OutG QueS 79 3 L W v pre
theorem OutQr.rows {L : Nat} {W : World} {v : Value} {pre : List Que} (h : OutQr L W v pre) : RowsOf QueR 3 W v pre := OutG.rows h QueS.read

/-! ### one property, in plain Lean -/
/-- The first property, how many bytes it has, the error. -/
def stepQ (bs : List Int) : Prp × Nat × Int :=
  if (shQ.one bs).2.2 ≠ 0 then ((0, 0, []), 0, (shQ.one bs).2.2)
  else if (propQ (shQ.one bs).1).2 ≠ 0 then ((0, 0, []), 0, (propQ (shQ.one bs).1).2)
  else ((propQ (shQ.one bs).1).1, (shQ.one bs).2.1, 0)
theorem oneB_len {bs : List Int} (hu : U8 bs) (h : (shQ.one bs).2.2 = 0) : (shQ.one bs).2.1 = 4 + (shQ.one bs).1.2.length ∧ 12 ≤ (shQ.one bs).1.2.length := by
  have hok := shQ.one_ok h
  obtain ⟨hg, ht⟩ := Sh.thing_one hu h
  have hl := congrArg List.length ht
  rw [Sh.thing_len, List.length_take] at hl
  have hz : shQ.zeros (4 + (shQ.one bs).1.2.length) = 0 := rfl
  simp only [Sh.good, Sh.fits, Bool.and_eq_true] at hg
  have h16 : 16 ≤ 4 + (shQ.one bs).1.2.length := of_decide_eq_true hg.2.1
  omega
theorem getL_short : ∀ (w b : List Int), getL w b = .error 1 → b.length < sizeL w := by
  intro w
  induction w with
  | nil => intro b h; cases h
  | cons n w ih =>
    intro b h
    simp only [getL] at h
    simp only [sizeL]
    split at h
    · omega
    · split at h
      · cases hg : getL w (b.drop n.natAbs) with
        | ok l => rw [hg] at h; cases h
        | error e =>
          rw [hg] at h
          have he : e = 1 := by injection h
          subst he
          have := ih _ hg
          rw [List.length_drop] at this
          omega
      · split at h
        · have := ih _ h
          rw [List.length_drop] at this
          omega
        · injection h with h
          omega
theorem getS_row {t : Int} {w bs : List Int} (hr : rowsQ t = some w) (hu : U8 bs) (hl : 12 ≤ bs.length) : (getS w bs).2 = 0 ∨ ((getS w bs).2 = 2 ∧ (getS w bs).1 = []) := by
  obtain ⟨h1, h2, h3, -, -⟩ := rowsQ_some hr
  rcases getS_cases (ws := w) hu with ⟨h, -⟩ | ⟨h, -⟩ | h
  · exact .inl h
  · exfalso
    unfold getS at h
    rw [h1, if_pos rfl] at h
    cases hg : getL w bs with
    | ok l => rw [hg] at h; cases h
    | error e =>
      rw [hg] at h
      have he : e = 1 := h
      subst he
      have := getL_short _ _ hg
      omega
  · exact .inr h
theorem getS_cnt {t : Int} {w b : List Int} (hr : rowsQ t = some w) (hu : U8 b) (h : (getS w b).2 = 0) : 0 < (getS w b).1.length := by
  obtain ⟨h1, -, -, h4, -⟩ := rowsQ_some hr
  unfold getS at h ⊢
  rw [h1, if_pos rfl] at h ⊢
  cases hg : getL w b with
  | error e => rw [hg] at h; have := getL_err hg; rcases this with rfl | rfl <;> exact absurd h (by decide)
  | ok l =>
    have := (put_get (right_all h1) hu hg).2.1
    show 0 < l.length
    omega
theorem stepQ_one {bs : List Int} (h : (shQ.one bs).2.2 ≠ 0) : stepQ bs = ((0, 0, []), 0, (shQ.one bs).2.2) := by rw [stepQ, if_pos h]
theorem stepQ_prop {bs : List Int} (h0 : (shQ.one bs).2.2 = 0) {x : Prp} {e : Int} (h : propQ (shQ.one bs).1 = (x, e)) (he : e ≠ 0) : stepQ bs = ((0, 0, []), 0, e) := by rw [stepQ, if_neg (by simpa using h0), h, if_pos he]
theorem stepQ_ok {bs : List Int} (h0 : (shQ.one bs).2.2 = 0) {x : Prp} (h : propQ (shQ.one bs).1 = (x, 0)) : stepQ bs = (x, (shQ.one bs).2.1, 0) := by rw [stepQ, if_neg (by simpa using h0), h, if_neg (by simp)]
/-- What a thing is a property by. -/
theorem propQ_get {t : Int} {bs w : List Int} (hr : rowsQ t = some w) (hc : ¬ (t ≠ 65535 ∧ bs.length ≠ 12)) (hu : U8 bs) (hl : 12 ≤ bs.length) :
    ((getS w bs).2 = 0 ∧ propQ (t, bs) = ((t, (getS w bs).1.getD 0 0, bs.drop 12), 0)) ∨ ((getS w bs).2 = 2 ∧ (getS w bs).1 = [] ∧ propQ (t, bs) = ((t, 0, []), 269)) := by
  unfold propQ
  simp only
  rw [hr]
  simp only
  rw [if_neg hc]
  rcases getS_row hr hu hl with h | ⟨h, h'⟩
  · refine .inl ⟨h, ?_⟩
    rw [if_neg (by rw [h]; decide), if_neg (by rw [h]; decide)]
  · refine .inr ⟨h, h', ?_⟩
    rw [if_neg (by rw [h]; decide), if_pos h]
/-- What the document's property hands back. -/
def GotPrpt (bs : List Int) (w : World) (e : Ending) (w' : World) : Prop :=
  ∃ dv, e = .returned (.tuple #[.agg #[.int .i64 (stepQ bs).1.1, .int .u64 (stepQ bs).1.2.1, dv], .int .i64 ((stepQ bs).2.1 : Nat), .int .i64 (stepQ bs).2.2]) ∧ PrpS w.heap.size w' (stepQ bs).1 [.int .i64 (stepQ bs).1.1, .int .u64 (stepQ bs).1.2.1, dv] ∧ Below w.heap.size w w'
theorem GotPrpt.none {bs : List Int} {e : Int} {w w' : World} (h : stepQ bs = ((0, 0, []), 0, e)) (hb : Below w.heap.size w w') : GotPrpt bs w (.returned (.tuple #[.agg #[.int .i64 0, .int .u64 0, .slice Option.none 0 0], .int .i64 0, .int .i64 e])) w' := by
  unfold GotPrpt
  rw [h]
  exact ⟨_, rfl, ⟨_, rfl, Ints.nil _ _, fun b hb => (by cases hb), fun b hb => (by cases hb), rfl, rfl⟩, hb⟩
theorem GotPrpt.some {bs : List Int} {x : Prp} {n : Nat} {dv : Value} {w w' : World} (h : stepQ bs = (x, n, 0)) (ho : PrpS w.heap.size w' x [.int .i64 x.1, .int .u64 x.2.1, dv]) (hb : Below w.heap.size w w') : GotPrpt bs w (.returned (.tuple #[.agg #[.int .i64 x.1, .int .u64 x.2.1, dv], .int .i64 n, .int .i64 0])) w' := by
  unfold GotPrpt
  rw [h]
  exact ⟨_, rfl, ho, hb⟩

set_option maxRecDepth 100000
set_option maxHeartbeats 8000000
theorem ref_property {v : Value} {bs : List Int} {w : World} (h : Ints .u8 w v bs) (hl : bs.length ≤ 1000000) : Calls Try.prog 52 #[v] w (GotPrpt bs w) := by
  have hu := h.u8
  have HO1 := Lib.hid (ref_one (s := shQ) (h.below (below_alloc2 (.cells #[.int .i64 0, .int .u64 0, .slice none 0 0] 81))) (by omega))
  have HP0 := Lib.hid (heap_alloc_new w (.cells #[.int .i64 0, .int .u64 0, .slice none 0 0] 81))
  have HB0 := Lib.hid (below_alloc2 (w := w) (.cells #[.int .i64 0, .int .u64 0, .slice none 0 0] 81))
  have hs0 : w.heap.size + 1 ≤ (w.alloc (.cells #[.int .i64 0, .int .u64 0, .slice none 0 0] 81)).heap.size := by simp
  obtain ⟨av, capv, bb, ov, rfl, -⟩ := h.open
  have hou := one_u8 (s := shQ) hu
  have HOl := Lib.hid (fun h => oneB_len (bs := bs) hu h)
  have HS1 := Lib.hid (fun h => stepQ_one (bs := bs) h)
  have HS2 := Lib.hid (fun (h0 : (shQ.one bs).2.2 = 0) (x : Prp) (e : Int) (h : propQ (shQ.one bs).1 = (x, e)) (he : e ≠ 0) => stepQ_prop (bs := bs) h0 h he)
  have HS3 := Lib.hid (fun (h0 : (shQ.one bs).2.2 = 0) (x : Prp) (h : propQ (shQ.one bs).1 = (x, 0)) => stepQ_ok (bs := bs) h0 h)
  clear h hu
  go_enter Try.func52, Try.ntmps52
  go_wp2_with fail
  generalize w.alloc (.cells #[.int .i64 0, .int .u64 0, .slice none 0 0] 81) = w0 at *
  unfold GotOne at HO1
  refine HO1.out.mono ?_
  clear HO1
  rintro e w1 ⟨bv, rfl, ho, hub, hb⟩
  have HP1 := Lib.hid (row_below hb HP0.out)
  have HB1 := Lib.hid (HB0.out.trans (hb.mono HB0.out.size))
  have HX1 := Lib.hid (own_base ho HB0.out.size)
  have HU1 := Lib.hid hub
  have hs1 : w.heap.size + 1 ≤ w1.heap.size := Nat.le_trans hs0 hb.size
  clear ho hub hb HP0 hs0
  generalize shQ.one bs = o at HX1 HU1 hou HOl HS1 HS2 HS3 ⊢
  obtain ⟨⟨t, zs⟩, n, er⟩ := o
  simp only at HX1 HU1 hou HOl HS1 HS2 HS3 ⊢
  have HT := Lib.hid hou.2
  clear hou
  obtain ⟨ax, capx, rfl⟩ := own_slice HX1.out
  have HP2 := Lib.hid (row_below (below_alloc2 (.cells #[.int .i64 t, .slice ax zs.length capx] 31)) HP1.out)
  have HB2 := Lib.hid (HB1.out.trans ((below_alloc2 (w := w1) (.cells #[.int .i64 t, .slice ax zs.length capx] 31)).mono HB1.out.size))
  have HX2 := Lib.hid (own_below HX1.out (below_alloc2 (.cells #[.int .i64 t, .slice ax zs.length capx] 31)))
  have HI2 := Lib.hid (heap_alloc_new w1 (.cells #[.int .i64 t, .slice ax zs.length capx] 31))
  have p0 := cell_row HP2.out 0
  have p1 := cell_row HP2.out 1
  have p2 := cell_row HP2.out 2
  have f0 := frozen_row HP2.out 0
  have f1 := frozen_row HP2.out 1
  have f2 := frozen_row HP2.out 2
  by_cases he : er ≠ 0
  · have e1 : (er != 0) = true := by simpa using he
    have HE := Lib.hid (HS1.out he)
    clear he HS1 HS2 HS3 HOl
    go_wp2_with fail
    have hr := rows3 HP2.out (.int .i64 0) (.int .u64 0) (.slice none 0 0)
    refine bodyPost_ret (res_row_tmp_tmp rfl _ _ w.heap.size _ _ _ _ rfl hr.1 Try.underlying81 rfl (by kernel_rfl)) rfl ?_
    exact GotPrpt.none HE.out (below_row HB2.out HB2.out.size hr.2 (Nat.le_refl _))
  · have he : er = 0 := by simpa using he
    subst he
    have hol := HOl.out rfl
    have HOl' := Lib.hid hol
    have HS2' := Lib.hid (HS2.out rfl)
    have HS3' := Lib.hid (HS3.out rfl)
    clear HOl HS1 hol HS2 HS3
    go_wp2_with fail
    generalize w1.alloc (.cells #[.int .i64 t, .slice ax zs.length capx] 31) = w2 at *
    refine (ref_rows t w2).mono ?_
    rintro e w3 ⟨ar, capr, rfl, hr, hb⟩
    have HP3 := Lib.hid (row_below hb HP2.out)
    have HI3 := Lib.hid (row_below hb HI2.out)
    have HB3 := Lib.hid (HB2.out.trans (hb.mono HB2.out.size))
    have HX3 := Lib.hid (own_below HX2.out hb)
    have HR3 := Lib.hid hr
    clear hb hr p0 p1 p2 f0 f1 f2 HP2 HI2 HX2 HB2
    have p0 := cell_row HP3.out 0
    have p1 := cell_row HP3.out 1
    have p2 := cell_row HP3.out 2
    have f0 := frozen_row HP3.out 0
    have f1 := frozen_row HP3.out 1
    have f2 := frozen_row HP3.out 2
    have i0 := cell_row HI3.out 0
    have i1 := cell_row HI3.out 1
    have hr3 := rows3 HP3.out (.int .i64 0) (.int .u64 0) (.slice none 0 0)
    have HZ := Lib.hid (And.intro hr3.1 (below_row HB3.out HB3.out.size hr3.2 (Nat.le_refl _)))
    have fin : Hid (∀ (er : Int) (tmps : Array Value), stepQ bs = ((0, 0, []), 0, er) → tmps.getD 2 undef = .pointer (some ⟨w.heap.size, 0, none⟩) → tmps.getD 3 undef = .int .i64 0 → tmps.getD 4 undef = .int .i64 er → bodyPost Try.prog Try.f52 (GotPrpt bs w) Exit.ret ⟨tmps, []⟩ (((w3.setCell ⟨w.heap.size, 0, none⟩ (.int .i64 0)).setCell ⟨w.heap.size, 1, none⟩ (.int .u64 0)).setCell ⟨w.heap.size, 2, none⟩ (.slice none 0 0))) := fun er tmps he ht1 ht2 ht3 => by
      refine bodyPost_ret (res_row_tmp_tmp rfl _ _ w.heap.size _ _ _ _ ht1 HZ.out.1 Try.underlying81 rfl (by kernel_rfl)) rfl ?_
      rw [ht2, ht3]
      exact GotPrpt.none he HZ.out.2
    clear hr3
    cases hrq : rowsQ t with
    | none =>
      have HE := Lib.hid (HS2'.out _ _ (propQ_none (bs := zs) hrq) (by decide))
      clear hrq
      go_wp2_with fail
      exact fin.out 269 _ HE.out rfl rfl rfl
    | some ws =>
      have HRw : Hid (Ints .i64 w3 (.slice ar ws.length capr) ws) := by have := HR3.out; rw [hrq] at this; exact this
      rw [show (some ws : Option (List Int)).getD [] = ws from rfl, show (some ws : Option (List Int)).isSome = true from rfl]
      have hn := HOl'.out.1
      by_cases hc : t ≠ 65535 ∧ zs.length ≠ 12
      · have HE := Lib.hid (HS2'.out _ _ (propQ_long hrq hc) (by decide))
        obtain ⟨hc1, hc2⟩ := hc
        have e1 : (t != 65535) = true := by simpa using hc1
        have e2 : ((n : Int) != (16 : Int)) = true := by simp; omega
        clear hrq HR3 hc1 hc2 hn
        go_wp2_with fail
        exact fin.out 263 _ HE.out rfl rfl rfl
      · have hc' : ((n : Int) != (16 : Int)) = false ∨ (((n : Int) != (16 : Int)) = true ∧ (t != 65535) = false) := by
          by_cases h2 : n = 16
          · exact .inl (by simp; omega)
          · refine .inr ⟨by simp; omega, ?_⟩
            by_cases h1 : t = 65535
            · simpa using h1
            · exact absurd ⟨h1, by omega⟩ hc
        have hpg := propQ_get hrq hc HU1.out HOl'.out.2
        have HG := Lib.hid (ref_get _ _ ws zs w3 HRw.out (Ints.of_own HX3.out HU1.out.wf))
        have hgl := getS_len (w := ws) HU1.out
        have hgu := getS_u64 (ws := ws) HU1.out
        have h12 := HOl'.out.2
        have hcn := getS_cnt (w := ws) (b := zs) hrq HU1.out
        clear hrq HR3 hc hn
        unfold GotS at HG
        generalize getS ws zs = gr at HG hpg hgl hgu hcn
        obtain ⟨gl, ge⟩ := gr
        simp only at HG hpg hgl hgu hcn
        rcases hpg with ⟨rfl, hp⟩ | ⟨rfl, rfl, hp⟩
        · have HE := Lib.hid (HS3'.out _ hp)
          have HGu := Lib.hid hgu
          have hgl0 : 0 < gl.length := hcn rfl
          clear hp hgu
          rcases hc' with e1 | ⟨e1, e2⟩
          all_goals
            go_wp2_with fail
            refine HG.out.mono ?_
            rintro e w4 ⟨vg, rfl, ho, hb⟩
            have HP4 := Lib.hid (row_below hb HP3.out)
            have HI4 := Lib.hid (row_below hb HI3.out)
            have HB4 := Lib.hid (HB3.out.trans (hb.mono HB3.out.size))
            have HX4 := Lib.hid (own_below HX3.out hb)
            obtain ⟨gg, capg, rfl, -, -⟩ := own_pos ho (by have := hgl0; omega)
            have l0 := first_cell (Ints.of_own ho HGu.out.wf) hgl0
            have HXw := Lib.hid (HGu.out.wf _ (getD_mem hgl0))
            generalize gl.getD 0 0 = x at l0 HE HXw
            have hcut := slice_from' Try.underlying25 info_u8 (Ints.of_own HX4.out HU1.out.wf) 12 12 rfl h12
            obtain ⟨A, hsl, hcut, hAb⟩ := hcut
            have HCut := Lib.hid hcut
            have HAb := Lib.hid hAb
            clear ho hb p0 p1 p2 f0 f1 f2 i0 i1 hcut hAb
            have p0 := cell_row HP4.out 0
            have p1 := cell_row HP4.out 1
            have p2 := cell_row HP4.out 2
            have f0 := frozen_row HP4.out 0
            have f1 := frozen_row HP4.out 1
            have f2 := frozen_row HP4.out 2
            have i0 := cell_row HI4.out 0
            have i1 := cell_row HI4.out 1
            go_wp2_with fail
            go_region
          all_goals
            go_wp2_with fail
            have hr := rows3 HP4.out (.int .i64 t) (.int .u64 x) (.slice A (zs.length - 12) (capx - 12))
            have hnt : NotTy w4 (some w.heap.size) 5 := NotTy.of_block HP4.out (by decide)
            have hba := (ByteAt.of_own HX4.out).slice HAb.out
            refine bodyPost_ret (res_row_tmp_tmp rfl _ (World.drew _) w.heap.size _ _ _ _ rfl hr.1 Try.underlying81 rfl (by kernel_rfl)) rfl ?_
            exact GotPrpt.some HE.out ⟨_, rfl, HCut.out.keptB hba (grown_draw hr.2 1) hnt, hba.kept (grown_draw hr.2 1) hnt, fun b hb => ⟨(HX4.out.lt b (HAb.out b hb)).1, Nat.lt_of_lt_of_le (HX4.out.lt b (HAb.out b hb)).2 hr.2.size⟩, wf_i64 (by have := HT.out.1; show _ ≤ t; omega) (by have := HT.out.2; show t < _; omega), HXw.out⟩ (below_drewN (below_row HB4.out HB4.out.size hr.2 (Nat.le_refl _)) 1)
        · have HE := Lib.hid (HS2'.out _ _ hp (by decide))
          clear hp hgu
          rcases hc' with e1 | ⟨e1, e2⟩
          all_goals
            go_wp2_with fail
            refine HG.out.mono ?_
            rintro e w4 ⟨vg, rfl, ho, hb⟩
            obtain ⟨ag, capg, rfl⟩ := own_slice ho
            have HP4 := Lib.hid (row_below hb HP3.out)
            have HB4 := Lib.hid (HB3.out.trans (hb.mono HB3.out.size))
            clear ho hb p0 p1 p2 f0 f1 f2 i0 i1
            have p0 := cell_row HP4.out 0
            have p1 := cell_row HP4.out 1
            have p2 := cell_row HP4.out 2
            have f0 := frozen_row HP4.out 0
            have f1 := frozen_row HP4.out 1
            have f2 := frozen_row HP4.out 2
            go_wp2_with fail
            have hr := rows3 HP4.out (.int .i64 0) (.int .u64 0) (.slice none 0 0)
            refine bodyPost_ret (res_row_tmp_tmp rfl _ _ w.heap.size _ _ _ _ rfl hr.1 Try.underlying81 rfl (by kernel_rfl)) rfl ?_
            exact GotPrpt.none HE.out (below_row HB4.out HB4.out.size hr.2 (Nat.le_refl _))
end Go.Proofs.Ytoobcgakainelaa
